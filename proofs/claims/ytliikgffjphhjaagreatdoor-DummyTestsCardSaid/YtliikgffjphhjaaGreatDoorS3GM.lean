/- Tests: the calibration that counts, of the reference. -/
import Derived.Test.YtliikgffjphhjaaGreatDoorS3GL
namespace Go.Vm.S3
open Go.Proofs Go.RowKit
set_option maxRecDepth 100000
variable (ps fs cs ts : List AV) (d u : Int)
theorem r138a (s w : ByteArray) (day o : Int) (i : Nat) (a b c : ByteArray) (n : Int) (us : List AV) : rn Q21 138 49 0 [1, 2, 3, 7, 8, 9] [3] [1, 2, 3, 7, 8, 9] [3] [] [] [sA s, iA day, .ptr 3 0 0, sA w, iA o, iA (Int.ofNat i)] [lbX ps fs cs ts d u] [.as 19 true, .chk [.agg [sA a, sA b, sA c, iA n, .rsl 1 us false]], .as 29 false] =
  (.need ((decide (Int.ofNat i < Int.ofNat cs.length)) = true) (.need (cs[i]? = (some (AV.agg [sA a, sA b, sA c, iA n, .rsl 1 us false]))) (.need ((!(w.toList == (ByteArray.mk #[]).toList)) = false) (dn [lbX ps fs cs ts d u] (.nrm, [sA s, iA day, .ptr 3 0 0, sA w, iA o, iA (IntKind.i64.wrap (Int.ofNat i + 1))], [lbX ps fs cs ts d u]))))) := by kernel_rfl
noncomputable abbrev pfS3R1_1 {R : Type} (cs : List AV) (w : ByteArray) (i : Nat) (a b c : ByteArray) (n : Int) (us : List AV) (kk9 : Dt R) : Dt R :=
 (.need ((decide (Int.ofNat i < Int.ofNat cs.length)) = true) (.need (cs[i]? = (some (AV.agg [sA a, sA b, sA c, iA n, .rsl 1 us false]))) (.need ((!(w.toList == (ByteArray.mk #[]).toList)) = true) kk9)))
theorem r138b (s w : ByteArray) (day o : Int) (i : Nat) (a b c : ByteArray) (n : Int) (us : List AV) : rn Q21 138 49 0 [1, 2, 3, 7, 8, 9] [3] [1, 2, 3, 7, 8, 9] [3] [] [] [sA s, iA day, .ptr 3 0 0, sA w, iA o, iA (Int.ofNat i)] [lbX ps fs cs ts d u] [.as 19 true, .chk [.agg [sA a, sA b, sA c, iA n, .rsl 1 us false]], .as 29 true, .as 35 false] =
  (pfS3R1_1 cs w i a b c n us (.need ((b.toList == s.toList) = false) (dn [lbX ps fs cs ts d u] (.nrm, [sA s, iA day, .ptr 3 0 0, sA w, iA o, iA (IntKind.i64.wrap (Int.ofNat i + 1))], [lbX ps fs cs ts d u])))) := by kernel_rfl
theorem r138c (s w : ByteArray) (day o : Int) (i : Nat) (a b c : ByteArray) (n : Int) (us : List AV) : rn Q21 138 49 0 [1, 2, 3, 7, 8, 9] [3] [1, 2, 3, 7, 8, 9] [3] [] [] [sA s, iA day, .ptr 3 0 0, sA w, iA o, iA (Int.ofNat i)] [lbX ps fs cs ts d u] [.as 19 true, .chk [.agg [sA a, sA b, sA c, iA n, .rsl 1 us false]], .as 29 true, .as 35 true, .as 41 false] =
  (pfS3R1_1 cs w i a b c n us (.need ((b.toList == s.toList) = true) (.need ((c.toList == w.toList) = false) (dn [lbX ps fs cs ts d u] (.nrm, [sA s, iA day, .ptr 3 0 0, sA w, iA o, iA (IntKind.i64.wrap (Int.ofNat i + 1))], [lbX ps fs cs ts d u]))))) := by kernel_rfl
theorem r138d (s w : ByteArray) (day o : Int) (i : Nat) (a b c : ByteArray) (n : Int) (us : List AV) : rn Q21 138 49 0 [1, 2, 3, 7, 8, 9] [3] [1, 2, 3, 7, 8, 9] [3] [] [] [sA s, iA day, .ptr 3 0 0, sA w, iA o, iA (Int.ofNat i)] [lbX ps fs cs ts d u] [.as 19 true, .chk [.agg [sA a, sA b, sA c, iA n, .rsl 1 us false]], .as 29 true, .as 35 true, .as 41 true, .as 46 false] =
  (pfS3R1_1 cs w i a b c n us (.need ((b.toList == s.toList) = true) (.need ((c.toList == w.toList) = true) (.need ((decide (n ≤ day)) = false) (dn [lbX ps fs cs ts d u] (.nrm, [sA s, iA day, .ptr 3 0 0, sA w, iA o, iA (IntKind.i64.wrap (Int.ofNat i + 1))], [lbX ps fs cs ts d u])))))) := by kernel_rfl
theorem r138y (s w : ByteArray) (day o : Int) (i : Nat) (a b c : ByteArray) (n : Int) (us : List AV) : rn Q21 138 49 0 [1, 2, 3, 7, 8, 9] [3] [1, 2, 3, 7, 8, 9] [3] [] [] [sA s, iA day, .ptr 3 0 0, sA w, iA o, iA (Int.ofNat i)] [lbX ps fs cs ts d u] [.as 19 true, .chk [.agg [sA a, sA b, sA c, iA n, .rsl 1 us false]], .as 29 true, .as 35 true, .as 41 true, .as 46 true] =
  (pfS3R1_1 cs w i a b c n us (.need ((b.toList == s.toList) = true) (.need ((c.toList == w.toList) = true) (.need ((decide (n ≤ day)) = true) (dn [lbX ps fs cs ts d u] (.nrm, [sA s, iA day, .ptr 3 0 0, sA w, iA (Int.ofNat i), iA (IntKind.i64.wrap (Int.ofNat i + 1))], [lbX ps fs cs ts d u])))))) := by kernel_rfl
theorem r138x (s w : ByteArray) (day o : Int) (i : Nat) : rn Q21 138 49 0 [1, 2, 3, 7, 8, 9] [3] [1, 2, 3, 7, 8, 9] [3] [8] [] [sA s, iA day, .ptr 3 0 0, sA w, iA o, iA (Int.ofNat i)] [lbX ps fs cs ts d u] [.as 19 false] =
  (.need ((decide (Int.ofNat i < Int.ofNat cs.length)) = false) (dn [] ((.exit 0), [iA o], []))) := by kernel_rfl
theorem t138 (s w : ByteArray) (day o : Int) : ev Q21 138 [lbE ps fs cs ts d u, sA s, iA day] [.sp [lbE ps fs cs ts d u, sA s, iA day] (sA w), .loop 0 [1, 2, 3, 7, 8, 9] [3] [8] [] (.exit 0) [iA o] []] =
  (ak Q21 45 [lbE ps fs cs ts d u, sA s, iA day] (sA w) (.need (EnC [lbX ps fs cs ts d u] ∧ EnC [] ∧ Says (CS Q21) 0 49 false (.loop (lO (CS Q21) 138 0)) (mkSt [1, 2, 3, 7, 8, 9] [3] 49 [sA s, iA day, .ptr 3 0 0, sA w, iA (-1), iA 0] [lbX ps fs cs ts d u]) (.exit 0) (mkSt [8] [] 49 [iA o] [])) (.done (some (iA o))))) := by kernel_rfl
def calS (w s : ByteArray) (day : Int) (c : Cb) : Bool := bif nilB w then false else bif seq c.2.1 s then bif seq c.2.2.1 w then decide (c.2.2.2.1 ≤ day) else false else false
def calI (w s : ByteArray) (day : Int) (l : List Cb) : Int := goL (fun i (c : Cb) (o : Int) => (.inl (bif calS w s day c then Int.ofNat i else o) : Int ⊕ Int)) id 0 l (-1)
def cntM (x : Lb) (s : ByteArray) (day : Int) : Int := calI (specM x.2.1 s day) s day x.2.2.1
def cnt138G : List AV → Option AV := sp3 labC strC intC fun x s day => bif okLb x then some (iA (cntM x s day)) else none
theorem h138 : Holds 138 cnt138G := holds3 fun x s day r hr => by
 cases hb : okLb x with
 | false => simp [hb] at hr
 | true =>
  simp only [hb, cond_true, Option.some.injEq] at hr; subst hr
  have K := okLb_at hb
  have hl := limTwo K.cs
  have h := LoopRun.list (C := CS Q21) (p := 0) (nt := 49) (rd := false) (c := lO (CS Q21) 138 0) (step := fun i (c : Cb) (o : Int) => (.inl (bif calS (specM x.2.1 s day) s day c then Int.ofNat i else o) : Int ⊕ Int)) (fin := id)
   (enc := fun i o => mkSt [1, 2, 3, 7, 8, 9] [3] 49 [sA s, iA day, .ptr 3 0 0, sA (specM x.2.1 s day), iA o, iA (Int.ofNat i)] [lbY x])
   (ex := fun _ => .exit 0) (out := fun o => mkSt [8] [] 49 [iA o] []) (l := x.2.2.1) (fun _ _ => True)
   (fun i c o hc _ => by
    have hi := lt_len hc
    have hlt : decide (Int.ofNat i < Int.ofNat (x.2.2.1.map cbC.enc).length) = true := by rw [e_cb]; exact lt_of hi
    have hg := get_map cbC.enc hc
    have hw := wrap_ix hi hl
    refine ⟨?_, trivial⟩
    unfold calS
    cases h1 : nilB (specM x.2.1 s day) with
    | true =>
     have hr := (lx x r138a) s (specM x.2.1 s day) day o i c.1 c.2.1 c.2.2.1 c.2.2.2.1 (c.2.2.2.2.map intC.enc)
     rw [hw] at hr
     exact Q21_ok.rndN hr ⟨hlt, hg, by show (!nilB _) = false; rw [h1]; rfl, trivial, rfl⟩
    | false =>
     have hn : (!nilB (specM x.2.1 s day)) = true := by rw [h1]; rfl
     cases h2 : seq c.2.1 s with
     | false =>
      have hr := (lx x r138b) s (specM x.2.1 s day) day o i c.1 c.2.1 c.2.2.1 c.2.2.2.1 (c.2.2.2.2.map intC.enc)
      rw [hw] at hr
      exact Q21_ok.rndN hr ⟨hlt, hg, hn, h2, trivial, rfl⟩
     | true =>
      cases h3 : seq c.2.2.1 (specM x.2.1 s day) with
      | false =>
       have hr := (lx x r138c) s (specM x.2.1 s day) day o i c.1 c.2.1 c.2.2.1 c.2.2.2.1 (c.2.2.2.2.map intC.enc)
       rw [hw] at hr
       exact Q21_ok.rndN hr ⟨hlt, hg, hn, h2, h3, trivial, rfl⟩
      | true =>
       cases h4 : decide (c.2.2.2.1 ≤ day) with
       | false =>
        have hr := (lx x r138d) s (specM x.2.1 s day) day o i c.1 c.2.1 c.2.2.1 c.2.2.2.1 (c.2.2.2.2.map intC.enc)
        rw [hw] at hr
        exact Q21_ok.rndN hr ⟨hlt, hg, hn, h2, h3, h4, trivial, rfl⟩
       | true =>
        have hr := (lx x r138y) s (specM x.2.1 s day) day o i c.1 c.2.1 c.2.2.1 c.2.2.2.1 (c.2.2.2.2.map intC.enc)
        rw [hw] at hr
        exact Q21_ok.rndN hr ⟨hlt, hg, hn, h2, h3, h4, trivial, rfl⟩)
   (fun o _ => ⟨Q21_ok.rndX ((lx x r138x) s (specM x.2.1 s day) day o x.2.2.1.length) ⟨by rw [e_cb]; exact lt_self _, trivial, rfl⟩, by simp⟩)
   x.2.2.1 [] (-1) rfl trivial
  exact Q21_ok.tr ((lx x t138) s (specM x.2.1 s day) day (cntM x s day)) ⟨⟨rfl, spSpec s day hb⟩, ⟨trivial, trivial, h.says⟩, rfl⟩
noncomputable def R1 : Specs := (Q21.set 138 cnt138G)
theorem R1_ok : Ok R1 := (Q21_ok.set h138)
end Go.Vm.S3

namespace Go.Vm.S3
open Go.Proofs Go.RowKit
set_option maxRecDepth 100000
variable (ps fs cs ts : List AV) (d u : Int)
theorem r202iy (es : List AV) (w : ByteArray) (fr m : Int) (i j : Nat) (q : Bool) (a : ByteArray) (n : Int) (ws : List AV) (y z : ByteArray) : rn R1 202 59 2 [1, 2, 3, 4, 9, 10, 11, 12] [4] [1, 2, 3, 4, 9, 10, 11, 12] [4] [1, 2, 3, 4, 9, 10, 11] [4] [.rsl 3 es false, sA w, iA fr, .ptr 4 0 0, iA m, iA (Int.ofNat i), bA q, iA (Int.ofNat j)] [lbX ps fs cs ts d u] [.chk [.agg [sA a, iA n, .rsl 1 ws false]], .as 26 true, .chk [.agg [sA a, iA n, .rsl 1 ws false]], .chk [sA y], .chk [.agg [sA a, iA n, .rsl 1 ws false]], .sp [lbE ps fs cs ts d u, sA y, iA n] (sA z), .as 45 true] =
  (.need (es[i]? = (some (AV.agg [sA a, iA n, .rsl 1 ws false]))) (.need ((decide (Int.ofNat j < Int.ofNat ws.length)) = true) (.need (es[i]? = (some (AV.agg [sA a, iA n, .rsl 1 ws false]))) (.need (ws[j]? = (some (sA y))) (.need (es[i]? = (some (AV.agg [sA a, iA n, .rsl 1 ws false]))) (ak R1 45 [lbE ps fs cs ts d u, sA y, iA n] (sA z) (.need ((z.toList == w.toList) = true) (dn [lbX ps fs cs ts d u] (.nrm, [.rsl 3 es false, sA w, iA fr, .ptr 4 0 0, iA m, iA (Int.ofNat i), bA true, iA (IntKind.i64.wrap (Int.ofNat j + 1))], [lbX ps fs cs ts d u]))))))))) := by kernel_rfl
theorem r202in (es : List AV) (w : ByteArray) (fr m : Int) (i j : Nat) (q : Bool) (a : ByteArray) (n : Int) (ws : List AV) (y z : ByteArray) : rn R1 202 59 2 [1, 2, 3, 4, 9, 10, 11, 12] [4] [1, 2, 3, 4, 9, 10, 11, 12] [4] [1, 2, 3, 4, 9, 10, 11] [4] [.rsl 3 es false, sA w, iA fr, .ptr 4 0 0, iA m, iA (Int.ofNat i), bA q, iA (Int.ofNat j)] [lbX ps fs cs ts d u] [.chk [.agg [sA a, iA n, .rsl 1 ws false]], .as 26 true, .chk [.agg [sA a, iA n, .rsl 1 ws false]], .chk [sA y], .chk [.agg [sA a, iA n, .rsl 1 ws false]], .sp [lbE ps fs cs ts d u, sA y, iA n] (sA z), .as 45 false] =
  (.need (es[i]? = (some (AV.agg [sA a, iA n, .rsl 1 ws false]))) (.need ((decide (Int.ofNat j < Int.ofNat ws.length)) = true) (.need (es[i]? = (some (AV.agg [sA a, iA n, .rsl 1 ws false]))) (.need (ws[j]? = (some (sA y))) (.need (es[i]? = (some (AV.agg [sA a, iA n, .rsl 1 ws false]))) (ak R1 45 [lbE ps fs cs ts d u, sA y, iA n] (sA z) (.need ((z.toList == w.toList) = false) (dn [lbX ps fs cs ts d u] (.nrm, [.rsl 3 es false, sA w, iA fr, .ptr 4 0 0, iA m, iA (Int.ofNat i), bA q, iA (IntKind.i64.wrap (Int.ofNat j + 1))], [lbX ps fs cs ts d u]))))))))) := by kernel_rfl
theorem r202ix (es : List AV) (w : ByteArray) (fr m : Int) (i j : Nat) (q : Bool) (a : ByteArray) (n : Int) (ws : List AV) : rn R1 202 59 2 [1, 2, 3, 4, 9, 10, 11, 12] [4] [1, 2, 3, 4, 9, 10, 11, 12] [4] [1, 2, 3, 4, 9, 10, 11] [4] [.rsl 3 es false, sA w, iA fr, .ptr 4 0 0, iA m, iA (Int.ofNat i), bA q, iA (Int.ofNat j)] [lbX ps fs cs ts d u] [.chk [.agg [sA a, iA n, .rsl 1 ws false]], .as 26 false] =
  (.need (es[i]? = (some (AV.agg [sA a, iA n, .rsl 1 ws false]))) (.need ((decide (Int.ofNat j < Int.ofNat ws.length)) = false) (dn [lbX ps fs cs ts d u] ((.exit 2), [.rsl 3 es false, sA w, iA fr, .ptr 4 0 0, iA m, iA (Int.ofNat i), bA q], [lbX ps fs cs ts d u])))) := by kernel_rfl
theorem r202f (es : List AV) (w : ByteArray) (fr m : Int) (i : Nat) (q : Bool) (a : ByteArray) (n : Int) (ws : List AV) : rn R1 202 59 0 [1, 2, 3, 4, 9, 10] [4] [1, 2, 3, 4, 9, 10] [4] [] [4] [.rsl 3 es false, sA w, iA fr, .ptr 4 0 0, iA m, iA (Int.ofNat i)] [lbX ps fs cs ts d u] [.as 16 true, .loop 0 [1, 2, 3, 4, 9, 10, 11, 12] [4] [1, 2, 3, 4, 9, 10, 11] [4] (.exit 2) [.rsl 3 es false, sA w, iA fr, .ptr 4 0 0, iA m, iA (Int.ofNat i), bA q] [lbX ps fs cs ts d u], .as 47 false] =
  (.need ((decide (Int.ofNat i < Int.ofNat es.length)) = true) (.need (EnC [lbX ps fs cs ts d u] ∧ EnC [lbX ps fs cs ts d u] ∧ Says (CS R1) 0 59 false (.loop (lO (CS R1) 202 2)) (mkSt [1, 2, 3, 4, 9, 10, 11, 12] [4] 59 [.rsl 3 es false, sA w, iA fr, .ptr 4 0 0, iA m, iA (Int.ofNat i), bA false, iA 0] [lbX ps fs cs ts d u]) (.exit 2) (mkSt [1, 2, 3, 4, 9, 10, 11] [4] 59 [.rsl 3 es false, sA w, iA fr, .ptr 4 0 0, iA m, iA (Int.ofNat i), bA q] [lbX ps fs cs ts d u])) (.need (q = false) (dn [lbX ps fs cs ts d u] (.nrm, [.rsl 3 es false, sA w, iA fr, .ptr 4 0 0, iA m, iA (IntKind.i64.wrap (Int.ofNat i + 1))], [lbX ps fs cs ts d u]))))) := by kernel_rfl
noncomputable abbrev pfS3R2_1 {R : Type} (ps fs cs ts : List AV) (d u : Int) (es : List AV) (w : ByteArray) (fr m : Int) (i : Nat) (q : Bool) (a : ByteArray) (n : Int) (ws : List AV) (kk9 : Dt R) : Dt R :=
 (.need ((decide (Int.ofNat i < Int.ofNat es.length)) = true) (.need (EnC [lbX ps fs cs ts d u] ∧ EnC [lbX ps fs cs ts d u] ∧ Says (CS R1) 0 59 false (.loop (lO (CS R1) 202 2)) (mkSt [1, 2, 3, 4, 9, 10, 11, 12] [4] 59 [.rsl 3 es false, sA w, iA fr, .ptr 4 0 0, iA m, iA (Int.ofNat i), bA false, iA 0] [lbX ps fs cs ts d u]) (.exit 2) (mkSt [1, 2, 3, 4, 9, 10, 11] [4] 59 [.rsl 3 es false, sA w, iA fr, .ptr 4 0 0, iA m, iA (Int.ofNat i), bA q] [lbX ps fs cs ts d u])) (.need (q = true) (.need (es[i]? = (some (AV.agg [sA a, iA n, .rsl 1 ws false]))) kk9))))
theorem r202n (es : List AV) (w : ByteArray) (fr m : Int) (i : Nat) (q : Bool) (a : ByteArray) (n : Int) (ws : List AV) : rn R1 202 59 0 [1, 2, 3, 4, 9, 10] [4] [1, 2, 3, 4, 9, 10] [4] [] [4] [.rsl 3 es false, sA w, iA fr, .ptr 4 0 0, iA m, iA (Int.ofNat i)] [lbX ps fs cs ts d u] [.as 16 true, .loop 0 [1, 2, 3, 4, 9, 10, 11, 12] [4] [1, 2, 3, 4, 9, 10, 11] [4] (.exit 2) [.rsl 3 es false, sA w, iA fr, .ptr 4 0 0, iA m, iA (Int.ofNat i), bA q] [lbX ps fs cs ts d u], .as 47 true, .chk [.agg [sA a, iA n, .rsl 1 ws false]], .as 55 false] =
  (pfS3R2_1 ps fs cs ts d u es w fr m i q a n ws (.need ((decide (n ≥ fr)) = false) (dn [lbX ps fs cs ts d u] (.nrm, [.rsl 3 es false, sA w, iA fr, .ptr 4 0 0, iA m, iA (IntKind.i64.wrap (Int.ofNat i + 1))], [lbX ps fs cs ts d u])))) := by kernel_rfl
theorem r202y (es : List AV) (w : ByteArray) (fr m : Int) (i : Nat) (q : Bool) (a : ByteArray) (n : Int) (ws : List AV) : rn R1 202 59 0 [1, 2, 3, 4, 9, 10] [4] [1, 2, 3, 4, 9, 10] [4] [] [4] [.rsl 3 es false, sA w, iA fr, .ptr 4 0 0, iA m, iA (Int.ofNat i)] [lbX ps fs cs ts d u] [.as 16 true, .loop 0 [1, 2, 3, 4, 9, 10, 11, 12] [4] [1, 2, 3, 4, 9, 10, 11] [4] (.exit 2) [.rsl 3 es false, sA w, iA fr, .ptr 4 0 0, iA m, iA (Int.ofNat i), bA q] [lbX ps fs cs ts d u], .as 47 true, .chk [.agg [sA a, iA n, .rsl 1 ws false]], .as 55 true, .ar (iA (m + 1))] =
  (pfS3R2_1 ps fs cs ts d u es w fr m i q a n ws (.need ((decide (n ≥ fr)) = true) (.need ((abin (CS R1) BinOp.add 3 (Operand.tmp 56) (Operand.const (Value.int IntKind.i64 1)) (iA m) (iA 1)) = (some (iA (m + 1)))) (dn [lbX ps fs cs ts d u] (.nrm, [.rsl 3 es false, sA w, iA fr, .ptr 4 0 0, iA (m + 1), iA (IntKind.i64.wrap (Int.ofNat i + 1))], [lbX ps fs cs ts d u]))))) := by kernel_rfl
theorem r202x (es : List AV) (w : ByteArray) (fr m : Int) (i : Nat) : rn R1 202 59 0 [1, 2, 3, 4, 9, 10] [4] [1, 2, 3, 4, 9, 10] [4] [9] [] [.rsl 3 es false, sA w, iA fr, .ptr 4 0 0, iA m, iA (Int.ofNat i)] [lbX ps fs cs ts d u] [.as 16 false] =
  (.need ((decide (Int.ofNat i < Int.ofNat es.length)) = false) (dn [] ((.exit 0), [iA m], []))) := by kernel_rfl
theorem t202 (es : List AV) (w : ByteArray) (fr m : Int) : ev R1 202 [lbE ps fs cs ts d u, .rsl 3 es false, sA w, iA fr] [.loop 0 [1, 2, 3, 4, 9, 10] [4] [9] [] (.exit 0) [iA m] []] =
  (.need (EnC [lbX ps fs cs ts d u] ∧ EnC [] ∧ Says (CS R1) 0 59 false (.loop (lO (CS R1) 202 0)) (mkSt [1, 2, 3, 4, 9, 10] [4] 59 [.rsl 3 es false, sA w, iA fr, .ptr 4 0 0, iA 0, iA 0] [lbX ps fs cs ts d u]) (.exit 0) (mkSt [9] [] 59 [iA m] [])) (.done (some (iA m)))) := by kernel_rfl
def usedT (fs : List Ft) (w : ByteArray) (t : Ts) : Bool := t.2.2.any fun p => seq (specM fs p t.2.1) w
def cntU (fs : List Ft) (w : ByteArray) (fr : Int) (l : List Ts) : Int := l.foldl (fun m t => bif usedT fs w t && decide (t.2.1 ≥ fr) then m + 1 else m) 0
theorem addM1 (S : Specs) (x y : Operand) {m : Int} {n : Nat} (h0 : 0 ≤ m) (h : m < Int.ofNat n) (hn : n ≤ lim) : abin (CS S) BinOp.add 3 x y (AV.v (.int .i64 m)) (AV.v (.int .i64 1)) = some (AV.v (.int .i64 (m + 1))) := by
 show some (AV.v (.int .i64 (IntKind.i64.wrap (m + 1)))) = _
 unfold lim at hn
 simp only [Int.ofNat_eq_natCast] at h
 rw [wrap_in (by omega) (by omega)]
def uses202G : List AV → Option AV := sp4 labC tssC strC intC fun x l w fr => bif okLb x && (Nat.ble l.length lim && l.all okT) then some (iA (cntU x.2.1 w fr l)) else none
theorem inner202 (x : Lb) (hok : okLb x = true) (l : List Ts) (w : ByteArray) (fr m : Int) (i : Nat) (t : Ts) (ht : l[i]? = some t) (hokt : okT t = true) :
  LoopRun (CS R1) 0 59 false (lO (CS R1) 202 2) (mkSt [1, 2, 3, 4, 9, 10, 11, 12] [4] 59 [.rsl 3 (l.map tsC.enc) false, sA w, iA fr, .ptr 4 0 0, iA m, iA (Int.ofNat i), bA false, iA 0] [lbY x]) (.exit 2)
   (mkSt [1, 2, 3, 4, 9, 10, 11] [4] 59 [.rsl 3 (l.map tsC.enc) false, sA w, iA fr, .ptr 4 0 0, iA m, iA (Int.ofNat i), bA (usedT x.2.1 w t)] [lbY x]) := by
 have hl := limTwo (Nat.le_of_ble_eq_true hokt)
 have hgt := get_map tsC.enc ht
 have h := LoopRun.list (C := CS R1) (p := 0) (nt := 59) (rd := false) (c := lO (CS R1) 202 2) (step := fun _ (y : ByteArray) (q : Bool) => (.inl (bif seq (specM x.2.1 y t.2.1) w then true else q) : Bool ⊕ Bool)) (fin := id)
  (enc := fun j q => mkSt [1, 2, 3, 4, 9, 10, 11, 12] [4] 59 [.rsl 3 (l.map tsC.enc) false, sA w, iA fr, .ptr 4 0 0, iA m, iA (Int.ofNat i), bA q, iA (Int.ofNat j)] [lbY x])
  (ex := fun _ => .exit 2) (out := fun q => mkSt [1, 2, 3, 4, 9, 10, 11] [4] 59 [.rsl 3 (l.map tsC.enc) false, sA w, iA fr, .ptr 4 0 0, iA m, iA (Int.ofNat i), bA q] [lbY x]) (l := t.2.2) (fun _ _ => True)
  (fun j y q hy _ => by
   have hj := lt_len hy
   have hlt : decide (Int.ofNat j < Int.ofNat (t.2.2.map strC.enc).length) = true := by rw [e_st]; exact lt_of hj
   have hg := get_map strC.enc hy
   have hw := wrap_ix hj hl
   refine ⟨?_, trivial⟩
   cases h1 : seq (specM x.2.1 y t.2.1) w with
   | true =>
    have hr := (lx x r202iy) (l.map tsC.enc) w fr m i j q t.1 t.2.1 (t.2.2.map strC.enc) y (specM x.2.1 y t.2.1)
    rw [hw] at hr
    exact R1_ok.rndN hr ⟨hgt, hlt, hgt, hg, hgt, ⟨rfl, spSpec y t.2.1 hok⟩, h1, trivial, rfl⟩
   | false =>
    have hr := (lx x r202in) (l.map tsC.enc) w fr m i j q t.1 t.2.1 (t.2.2.map strC.enc) y (specM x.2.1 y t.2.1)
    rw [hw] at hr
    exact R1_ok.rndN hr ⟨hgt, hlt, hgt, hg, hgt, ⟨rfl, spSpec y t.2.1 hok⟩, h1, trivial, rfl⟩)
  (fun q _ => ⟨R1_ok.rndX ((lx x r202ix) (l.map tsC.enc) w fr m i t.2.2.length q t.1 t.2.1 (t.2.2.map strC.enc)) ⟨hgt, by rw [e_st]; exact lt_self _, trivial, rfl⟩, by simp⟩)
  t.2.2 [] false rfl trivial
 have hany : ∀ (k : List ByteArray) (i : Nat) (q : Bool), goL (fun _ (y : ByteArray) (q : Bool) => (.inl (bif seq (specM x.2.1 y t.2.1) w then true else q) : Bool ⊕ Bool)) id i k q = (q || k.any fun p => seq (specM x.2.1 p t.2.1) w) := by
  intro k
  induction k with
  | nil => intro i q; simp [goL]
  | cons y k ih =>
   intro i q
   unfold goL
   simp only [ih, List.any_cons]
   cases seq (specM x.2.1 y t.2.1) w <;> cases q <;> simp
 rw [show ([] : List ByteArray).length = 0 from rfl, hany, Bool.false_or] at h
 exact h
theorem h202 : Holds 202 uses202G := holds4 fun x l w fr r hr => by
 cases hb : okLb x && (Nat.ble l.length lim && l.all okT) with
 | false => simp [hb] at hr
 | true =>
  simp only [hb, cond_true, Option.some.injEq] at hr; subst hr
  simp only [Bool.and_eq_true, List.all_eq_true] at hb
  obtain ⟨hok, hlim0, hall⟩ := hb
  have hlim := Nat.le_of_ble_eq_true hlim0
  have hl := limTwo hlim
  have h := LoopRun.list (C := CS R1) (p := 0) (nt := 59) (rd := false) (c := lO (CS R1) 202 0) (step := fun _ (t : Ts) (m : Int) => (.inl (bif usedT x.2.1 w t && decide (t.2.1 ≥ fr) then m + 1 else m) : Int ⊕ Int)) (fin := id)
   (enc := fun i m => mkSt [1, 2, 3, 4, 9, 10] [4] 59 [.rsl 3 (l.map tsC.enc) false, sA w, iA fr, .ptr 4 0 0, iA m, iA (Int.ofNat i)] [lbY x])
   (ex := fun _ => .exit 0) (out := fun m => mkSt [9] [] 59 [iA m] []) (l := l) (fun i m => 0 ≤ m ∧ m ≤ Int.ofNat i)
   (fun i t m ht hm => by
    have hi := lt_len ht
    have hlt : decide (Int.ofNat i < Int.ofNat (l.map tsC.enc).length) = true := by rw [e_ts]; exact lt_of hi
    have hg := get_map tsC.enc ht
    have hw := wrap_ix hi hl
    have hin := inner202 x hok l w fr m i t ht (hall t (List.mem_of_getElem? ht))
    obtain ⟨hm0, hm1⟩ := hm
    simp only [Int.ofNat_eq_natCast] at hm1
    cases hu : usedT x.2.1 w t with
    | false =>
     rw [hu] at hin
     have hr := (lx x r202f) (l.map tsC.enc) w fr m i false t.1 t.2.1 (t.2.2.map strC.enc)
     rw [hw] at hr
     exact ⟨R1_ok.rndN hr ⟨hlt, ⟨trivial, trivial, hin.says⟩, rfl, trivial, rfl⟩, hm0, by simp only [Int.ofNat_eq_natCast, Bool.false_and, cond_false]; omega⟩
    | true =>
     rw [hu] at hin
     cases hd : decide (t.2.1 ≥ fr) with
     | false =>
      have hr := (lx x r202n) (l.map tsC.enc) w fr m i true t.1 t.2.1 (t.2.2.map strC.enc)
      rw [hw] at hr
      exact ⟨R1_ok.rndN hr ⟨hlt, ⟨trivial, trivial, hin.says⟩, rfl, hg, hd, trivial, rfl⟩, hm0, by simp only [Int.ofNat_eq_natCast, Bool.and_false, cond_false]; omega⟩
     | true =>
      have hr := (lx x r202y) (l.map tsC.enc) w fr m i true t.1 t.2.1 (t.2.2.map strC.enc)
      rw [hw] at hr
      exact ⟨R1_ok.rndN hr ⟨hlt, ⟨trivial, trivial, hin.says⟩, rfl, hg, hd, addM1 R1 _ _ (n := l.length) hm0 (by simp only [Int.ofNat_eq_natCast]; omega) hlim, trivial, rfl⟩, by simp only [Bool.and_self, cond_true]; omega, by simp only [Int.ofNat_eq_natCast, Bool.and_self, cond_true]; omega⟩)
   (fun m _ => ⟨R1_ok.rndX ((lx x r202x) (l.map tsC.enc) w fr m l.length) ⟨by rw [e_ts]; exact lt_self _, trivial, rfl⟩, by simp⟩)
   l [] 0 rfl ⟨by omega, by simp⟩
  rw [show ([] : List Ts).length = 0 from rfl, goL_all (fun (m : Int) (t : Ts) => bif usedT x.2.1 w t && decide (t.2.1 ≥ fr) then m + 1 else m) id] at h
  exact R1_ok.tr ((lx x t202) (l.map tsC.enc) w fr (cntU x.2.1 w fr l)) ⟨⟨trivial, trivial, h.says⟩, rfl⟩
noncomputable def R2 : Specs := (R1.set 202 uses202G)
theorem R2_ok : Ok R2 := (R1_ok.set h202)
end Go.Vm.S3

namespace Go.Vm.S3
open Go.Proofs Go.RowKit
set_option maxRecDepth 100000
variable (ps fs cs ts : List AV) (d u : Int)
theorem t139a (s w : ByteArray) (day : Int) (es : List AV) : ev R2 139 [lbE ps fs cs ts d u, sA s, iA day, .rsl 3 es false] [.sp [lbE ps fs cs ts d u, sA s, iA day] (sA w), .as 17 true] =
  (ak R2 45 [lbE ps fs cs ts d u, sA s, iA day] (sA w) (.need ((w.toList == (ByteArray.mk #[]).toList) = true) (.done (some (sA (ByteArray.mk #[109, 105, 115, 115, 105, 110, 103])))))) := by kernel_rfl
theorem t139b (s w : ByteArray) (day : Int) (es : List AV) (k : Int) : ev R2 139 [lbE ps fs cs ts d u, sA s, iA day, .rsl 3 es false] [.sp [lbE ps fs cs ts d u, sA s, iA day] (sA w), .as 17 false, .sp [lbE ps fs cs ts d u, sA s, iA day] (iA k), .as 23 true] =
  (ak R2 45 [lbE ps fs cs ts d u, sA s, iA day] (sA w) (.need ((w.toList == (ByteArray.mk #[]).toList) = false) (ak R2 138 [lbE ps fs cs ts d u, sA s, iA day] (iA k) (.need ((decide (k < 0)) = true) (.done (some (sA (ByteArray.mk #[117, 110, 99, 97, 108, 105, 98, 114, 97, 116, 101, 100])))))))) := by kernel_rfl
noncomputable abbrev pfS3R3_1 {R : Type} (ps fs cs ts : List AV) (d u : Int) (s w : ByteArray) (day : Int) (k : Nat) (a b c : ByteArray) (n : Int) (us : List AV) (g : Bool) (kk9 : Dt R) : Dt R :=
 (ak R2 45 [lbE ps fs cs ts d u, sA s, iA day] (sA w) (.need ((w.toList == (ByteArray.mk #[]).toList) = false) (ak R2 138 [lbE ps fs cs ts d u, sA s, iA day] (iA (Int.ofNat k)) (.need ((decide (Int.ofNat k < 0)) = false) (.need (cs[k]? = (some (AV.agg [sA a, sA b, sA c, iA n, .rsl 1 us false]))) (ak R2 47 [lbE ps fs cs ts d u, .agg [sA a, sA b, sA c, iA n, .rsl 1 us false]] (bA g) kk9))))))
theorem t139c (s w : ByteArray) (day : Int) (es : List AV) (k : Nat) (a b c : ByteArray) (n : Int) (us : List AV) (g : Bool) : ev R2 139 [lbE ps fs cs ts d u, sA s, iA day, .rsl 3 es false] [.sp [lbE ps fs cs ts d u, sA s, iA day] (sA w), .as 17 false, .sp [lbE ps fs cs ts d u, sA s, iA day] (iA (Int.ofNat k)), .as 23 false, .chk [.agg [sA a, sA b, sA c, iA n, .rsl 1 us false]], .sp [lbE ps fs cs ts d u, .agg [sA a, sA b, sA c, iA n, .rsl 1 us false]] (bA g), .as 32 true] =
  (pfS3R3_1 ps fs cs ts d u s w day k a b c n us g (.need ((!g) = true) (.done (some (sA (ByteArray.mk #[102, 97, 105, 108, 101, 100])))))) := by kernel_rfl
theorem t139d (s w : ByteArray) (day : Int) (es : List AV) (k : Nat) (a b c : ByteArray) (n : Int) (us : List AV) (g : Bool) : ev R2 139 [lbE ps fs cs ts d u, sA s, iA day, .rsl 3 es false] [.sp [lbE ps fs cs ts d u, sA s, iA day] (sA w), .as 17 false, .sp [lbE ps fs cs ts d u, sA s, iA day] (iA (Int.ofNat k)), .as 23 false, .chk [.agg [sA a, sA b, sA c, iA n, .rsl 1 us false]], .sp [lbE ps fs cs ts d u, .agg [sA a, sA b, sA c, iA n, .rsl 1 us false]] (bA g), .as 32 false, .as 40 true] =
  (pfS3R3_1 ps fs cs ts d u s w day k a b c n us g (.need ((!g) = false) (.need ((decide (IntKind.i64.wrap (day - n) > d)) = true) (.done (some (sA (ByteArray.mk #[111, 108, 100]))))))) := by kernel_rfl
theorem t139e (s w : ByteArray) (day : Int) (es : List AV) (k : Nat) (a b c : ByteArray) (n : Int) (us : List AV) (g : Bool) (m : Int) : ev R2 139 [lbE ps fs cs ts d u, sA s, iA day, .rsl 3 es false] [.sp [lbE ps fs cs ts d u, sA s, iA day] (sA w), .as 17 false, .sp [lbE ps fs cs ts d u, sA s, iA day] (iA (Int.ofNat k)), .as 23 false, .chk [.agg [sA a, sA b, sA c, iA n, .rsl 1 us false]], .sp [lbE ps fs cs ts d u, .agg [sA a, sA b, sA c, iA n, .rsl 1 us false]] (bA g), .as 32 false, .as 40 false, .sp [lbE ps fs cs ts d u, .rsl 3 es false, sA w, iA n] (iA m), .as 50 true] =
  (pfS3R3_1 ps fs cs ts d u s w day k a b c n us g (.need ((!g) = false) (.need ((decide (IntKind.i64.wrap (day - n) > d)) = false) (ak R2 202 [lbE ps fs cs ts d u, .rsl 3 es false, sA w, iA n] (iA m) (.need ((decide (m ≥ u)) = true) (.done (some (sA (ByteArray.mk #[119, 111, 114, 110]))))))))) := by kernel_rfl
theorem t139f (s w : ByteArray) (day : Int) (es : List AV) (k : Nat) (a b c : ByteArray) (n : Int) (us : List AV) (g : Bool) (m : Int) : ev R2 139 [lbE ps fs cs ts d u, sA s, iA day, .rsl 3 es false] [.sp [lbE ps fs cs ts d u, sA s, iA day] (sA w), .as 17 false, .sp [lbE ps fs cs ts d u, sA s, iA day] (iA (Int.ofNat k)), .as 23 false, .chk [.agg [sA a, sA b, sA c, iA n, .rsl 1 us false]], .sp [lbE ps fs cs ts d u, .agg [sA a, sA b, sA c, iA n, .rsl 1 us false]] (bA g), .as 32 false, .as 40 false, .sp [lbE ps fs cs ts d u, .rsl 3 es false, sA w, iA n] (iA m), .as 50 false] =
  (pfS3R3_1 ps fs cs ts d u s w day k a b c n us g (.need ((!g) = false) (.need ((decide (IntKind.i64.wrap (day - n) > d)) = false) (ak R2 202 [lbE ps fs cs ts d u, .rsl 3 es false, sA w, iA n] (iA m) (.need ((decide (m ≥ u)) = false) (.done (some (sA (ByteArray.mk #[]))))))))) := by kernel_rfl
theorem cal_at {w s : ByteArray} {day : Int} : ∀ (l : List Cb) (i : Nat) (o : Int), (goL (fun i (c : Cb) (o : Int) => (.inl (bif calS w s day c then Int.ofNat i else o) : Int ⊕ Int)) id i l o = o) ∨
  ∃ j c, l[j]? = some c ∧ calS w s day c = true ∧ goL (fun i (c : Cb) (o : Int) => (.inl (bif calS w s day c then Int.ofNat i else o) : Int ⊕ Int)) id i l o = Int.ofNat (i + j)
 | [], i, o => .inl rfl
 | c :: l, i, o => by
  unfold goL
  simp only
  rcases cal_at l (i + 1) (bif calS w s day c then Int.ofNat i else o) with h | ⟨j, c', h1, h2, h3⟩
  ·cases hc : calS w s day c with
   | false => rw [hc, cond_false] at h; exact .inl h
   | true => rw [hc, cond_true] at h; exact .inr ⟨0, c, rfl, hc, h⟩
  ·exact .inr ⟨j + 1, c', by rw [List.getElem?_cons_succ]; exact h1, h2, by rw [h3]; congr 1; omega⟩
theorem cnt_at (x : Lb) (s : ByteArray) (day : Int) : cntM x s day = -1 ∨ ∃ k, k < x.2.2.1.length ∧ cntM x s day = Int.ofNat k ∧ calS (specM x.2.1 s day) s day (cbAt x k) = true := by
 unfold cntM calI
 rcases cal_at (w := specM x.2.1 s day) (s := s) (day := day) x.2.2.1 0 (-1) with h | ⟨j, c, h1, h2, h3⟩
 ·exact .inl h
 ·refine .inr ⟨j, lt_len h1, by rw [h3, Nat.zero_add], ?_⟩
  have := cbAt_get (lt_len h1)
  rw [h1, Option.some.injEq] at this
  rw [← this]; exact h2
def sMissing : ByteArray := ⟨#[109, 105, 115, 115, 105, 110, 103]⟩
def sUncal : ByteArray := ⟨#[117, 110, 99, 97, 108, 105, 98, 114, 97, 116, 101, 100]⟩
def sFailed : ByteArray := ⟨#[102, 97, 105, 108, 101, 100]⟩
def sOld : ByteArray := ⟨#[111, 108, 100]⟩
def sWorn : ByteArray := ⟨#[119, 111, 114, 110]⟩
def wrongM (x : Lb) (w : ByteArray) (day : Int) (c : Cb) (l : List Ts) : ByteArray :=
 bif !goodM x.1 c then sFailed else bif decide (IntKind.i64.wrap (day - c.2.2.2.1) > x.2.2.2.2.1) then sOld else bif decide (cntU x.2.1 w c.2.2.2.1 l ≥ x.2.2.2.2.2) then sWorn else ⟨#[]⟩
def stM (x : Lb) (s : ByteArray) (day : Int) (l : List Ts) : ByteArray :=
 bif nilB (specM x.2.1 s day) then sMissing else bif decide (cntM x s day < 0) then sUncal else wrongM x (specM x.2.1 s day) day (cbAt x (cntM x s day).toNat) l
def st139G : List AV → Option AV := sp4 labC strC intC tssC fun x s day l => bif okLb x && (decide (labM x = 0) && (Nat.ble l.length lim && l.all okT)) then some (sA (stM x s day l)) else none
theorem spCnt {x : Lb} (s : ByteArray) (day : Int) (h : okLb x = true) : cnt138G [lbA x, sA s, iA day] = some (iA (cntM x s day)) := by
 have := sp3_at (A := labC) (B := strC) (D := intC) (F := fun x s day => bif okLb x then some (iA (cntM x s day)) else none) x s day
 rw [h] at this; exact this
theorem spUses {x : Lb} {l : List Ts} (w : ByteArray) (fr : Int) (h : okLb x = true) (h1 : (Nat.ble l.length lim && l.all okT) = true) : uses202G [lbA x, slA tsC 3 l, sA w, iA fr] = some (iA (cntU x.2.1 w fr l)) := by
 have := sp4_at (A := labC) (B := tssC) (D := strC) (E := intC) (F := fun x l w fr => bif okLb x && (Nat.ble l.length lim && l.all okT) then some (iA (cntU x.2.1 w fr l)) else none) x l w fr
 rw [h, h1] at this; exact this
theorem h139 : Holds 139 st139G := holds4 fun x s day l r hr => by
 cases hb : okLb x && (decide (labM x = 0) && (Nat.ble l.length lim && l.all okT)) with
 | false => simp [hb] at hr
 | true =>
  simp only [hb, cond_true, Option.some.injEq] at hr; subst hr
  rw [Bool.and_eq_true, Bool.and_eq_true, decide_eq_true_eq] at hb
  obtain ⟨hok, hz, hl⟩ := hb
  have G := labM_zero hz
  unfold stM
  cases hn : nilB (specM x.2.1 s day) with
  | true => exact R2_ok.tr ((lx x t139a) s (specM x.2.1 s day) day (l.map tsC.enc)) ⟨⟨rfl, spSpec s day hok⟩, hn, rfl⟩
  | false =>
   rcases cnt_at x s day with hk | ⟨k, hkl, hk, _⟩
   ·rw [hk]
    have hs := spCnt s day hok
    rw [hk] at hs
    exact R2_ok.tr ((lx x t139b) s (specM x.2.1 s day) day (l.map tsC.enc) (-1)) ⟨⟨rfl, spSpec s day hok⟩, hn, ⟨rfl, hs⟩, rfl, rfl⟩
   ·rw [hk]
    have hs := spCnt s day hok
    rw [hk] at hs
    have hg := cbAt_get hkl
    obtain ⟨e1, e2, _⟩ := calM_zero (G.cs _ _ hg)
    obtain ⟨_, _, e3, _, _⟩ := calE_zero e1
    have f47 := spGood hok G.ps e3 e2
    have hlt : decide (Int.ofNat k < 0) = false := decide_eq_false (by simp)
    rw [hlt, cond_false, show (Int.ofNat k).toNat = k from rfl]
    have hgm := get_map cbC.enc hg
    generalize cbAt x k = c at f47 hgm ⊢
    unfold wrongM
    cases h1 : goodM x.1 c with
    | false =>
     rw [h1] at f47
     exact R2_ok.tr ((lx x t139c) s (specM x.2.1 s day) day (l.map tsC.enc) k c.1 c.2.1 c.2.2.1 c.2.2.2.1 (c.2.2.2.2.map intC.enc) false) ⟨⟨rfl, spSpec s day hok⟩, hn, ⟨rfl, hs⟩, hlt, hgm, ⟨rfl, f47⟩, rfl, rfl⟩
    | true =>
     rw [h1] at f47
     cases h2 : decide (IntKind.i64.wrap (day - c.2.2.2.1) > x.2.2.2.2.1) with
     | true => exact R2_ok.tr ((lx x t139d) s (specM x.2.1 s day) day (l.map tsC.enc) k c.1 c.2.1 c.2.2.1 c.2.2.2.1 (c.2.2.2.2.map intC.enc) true) ⟨⟨rfl, spSpec s day hok⟩, hn, ⟨rfl, hs⟩, hlt, hgm, ⟨rfl, f47⟩, rfl, h2, rfl⟩
     | false =>
      cases h3 : decide (cntU x.2.1 (specM x.2.1 s day) c.2.2.2.1 l ≥ x.2.2.2.2.2) with
      | true => exact R2_ok.tr ((lx x t139e) s (specM x.2.1 s day) day (l.map tsC.enc) k c.1 c.2.1 c.2.2.1 c.2.2.2.1 (c.2.2.2.2.map intC.enc) true _) ⟨⟨rfl, spSpec s day hok⟩, hn, ⟨rfl, hs⟩, hlt, hgm, ⟨rfl, f47⟩, rfl, h2, ⟨rfl, spUses _ _ hok hl⟩, h3, rfl⟩
      | false => exact R2_ok.tr ((lx x t139f) s (specM x.2.1 s day) day (l.map tsC.enc) k c.1 c.2.1 c.2.2.1 c.2.2.2.1 (c.2.2.2.2.map intC.enc) true _) ⟨⟨rfl, spSpec s day hok⟩, hn, ⟨rfl, hs⟩, hlt, hgm, ⟨rfl, f47⟩, rfl, h2, ⟨rfl, spUses _ _ hok hl⟩, h3, rfl⟩
noncomputable def R3 : Specs := (R2.set 139 st139G)
theorem R3_ok : Ok R3 := (R2_ok.set h139)
end Go.Vm.S3

namespace Go.Vm.S3
open Go.Proofs Go.RowKit
set_option maxRecDepth 100000
variable (ps fs cs ts : List AV) (d u : Int)
theorem r57a (k j : Nat) (a : ByteArray) (n : Int) (ws : List AV) (y z : ByteArray) (es1 : List AV) : rn R3 57 37 0 [1, 2, 5, 6, 7] [2, 6] [1, 2, 5, 6, 7] [2, 6, 35] [5] [2, 6] [iA (Int.ofNat k), .ptr 2 0 0, nilS, .ptr 6 1 0, iA (Int.ofNat j)] [lbX ps fs cs ts d u, (false, .box [sA a, iA n, .rsl 1 ws false])] [.as 17 true, .chk [sA y], .chk [], .sp [lbE ps fs cs ts d u, sA y, iA n, .rsl 3 es1 false] (sA z)] =
  (.need ((decide (Int.ofNat j < Int.ofNat ws.length)) = true) (.need (ws[j]? = (some (sA y))) (.need (0 ≤ k ∧ k ≤ ts.length) (.need (([lbE ps fs cs ts d u, sA y, iA n, .rsl 3 (List.take (k - 0) (List.drop 0 ts)) false] : List AV) = ([lbE ps fs cs ts d u, sA y, iA n, .rsl 3 es1 false] : List AV) ∧ (Cx.spec (CS R3) 139 ([lbE ps fs cs ts d u, sA y, iA n, .rsl 3 (List.take (k - 0) (List.drop 0 ts)) false] : List AV)) = (some (sA z))) (dn [lbX ps fs cs ts d u, (false, .box [sA a, iA n, .rsl 1 ws false]), (false, .arr 1 [sA z] false)] (.nrm, [iA (Int.ofNat k), .ptr 2 0 0, .sl 35 2 1 0 1, .ptr 6 1 0, iA (IntKind.i64.wrap (Int.ofNat j + 1))], [lbX ps fs cs ts d u, (false, .box [sA a, iA n, .rsl 1 ws false]), (false, .arr 1 [sA z] false)])))))) := by kernel_rfl
theorem r57xa (k j : Nat) (a : ByteArray) (n : Int) (ws : List AV) : rn R3 57 37 0 [1, 2, 5, 6, 7] [2, 6] [1, 2, 5, 6, 7] [2, 6] [5] [2, 6] [iA (Int.ofNat k), .ptr 2 0 0, nilS, .ptr 6 1 0, iA (Int.ofNat j)] [lbX ps fs cs ts d u, (false, .box [sA a, iA n, .rsl 1 ws false])] [.as 17 false] =
  (.need ((decide (Int.ofNat j < Int.ofNat ws.length)) = false) (dn [lbX ps fs cs ts d u, (false, .box [sA a, iA n, .rsl 1 ws false])] ((.exit 0), [.v (.slice none 0 0)], [lbX ps fs cs ts d u, (false, .box [sA a, iA n, .rsl 1 ws false])]))) := by kernel_rfl
theorem r57b (k j : Nat) (rs : List AV) (m : Nat) (a : ByteArray) (n : Int) (ws : List AV) (y z : ByteArray) (es1 : List AV) : rn R3 57 37 0 [1, 2, 5, 6, 7] [2, 6, 35] [1, 2, 5, 6, 7] [2, 6, 35] [5] [2, 6, 35] [iA (Int.ofNat k), .ptr 2 0 0, .sl 35 2 1 0 m, .ptr 6 1 0, iA (Int.ofNat j)] [lbX ps fs cs ts d u, (false, .box [sA a, iA n, .rsl 1 ws false]), (false, .arr 1 rs false)] [.as 17 true, .chk [sA y], .chk [], .sp [lbE ps fs cs ts d u, sA y, iA n, .rsl 3 es1 false] (sA z), .ap []] =
  (.need ((decide (Int.ofNat j < Int.ofNat ws.length)) = true) (.need (ws[j]? = (some (sA y))) (.need (0 ≤ k ∧ k ≤ ts.length) (.need (([lbE ps fs cs ts d u, sA y, iA n, .rsl 3 (List.take (k - 0) (List.drop 0 ts)) false] : List AV) = ([lbE ps fs cs ts d u, sA y, iA n, .rsl 3 es1 false] : List AV) ∧ (Cx.spec (CS R3) 139 ([lbE ps fs cs ts d u, sA y, iA n, .rsl 3 (List.take (k - 0) (List.drop 0 ts)) false] : List AV)) = (some (sA z))) (.need (m = rs.length ∧ true = true ∧ 1 = 1 ∧ (rs ++ ([sA z] : List AV)).length * 16 ≤ 35184372088832 ∧ (rs ++ ([sA z] : List AV)).length ≤ 35184372088832 ∧ 16 ≠ 0) (dn [lbX ps fs cs ts d u, (false, .box [sA a, iA n, .rsl 1 ws false]), (false, .arr 1 (rs ++ ([sA z] : List AV)) false)] (.nrm, [iA (Int.ofNat k), .ptr 2 0 0, .sl 35 2 1 0 ((rs ++ ([sA z] : List AV)).length), .ptr 6 1 0, iA (IntKind.i64.wrap (Int.ofNat j + 1))], [lbX ps fs cs ts d u, (false, .box [sA a, iA n, .rsl 1 ws false]), (false, .arr 1 (rs ++ ([sA z] : List AV)) false)]))))))) := by kernel_rfl
theorem r57xb (k j : Nat) (rs : List AV) (m : Nat) (a : ByteArray) (n : Int) (ws : List AV) : rn R3 57 37 0 [1, 2, 5, 6, 7] [2, 6, 35] [1, 2, 5, 6, 7] [2, 6, 35] [5] [2, 6, 35] [iA (Int.ofNat k), .ptr 2 0 0, .sl 35 2 1 0 m, .ptr 6 1 0, iA (Int.ofNat j)] [lbX ps fs cs ts d u, (false, .box [sA a, iA n, .rsl 1 ws false]), (false, .arr 1 rs false)] [.as 17 false] =
  (.need ((decide (Int.ofNat j < Int.ofNat ws.length)) = false) (dn [lbX ps fs cs ts d u, (false, .box [sA a, iA n, .rsl 1 ws false]), (false, .arr 1 rs false)] ((.exit 0), [.sl 35 2 1 0 m], [lbX ps fs cs ts d u, (false, .box [sA a, iA n, .rsl 1 ws false]), (false, .arr 1 rs false)]))) := by kernel_rfl
theorem t57 (k : Nat) (a : ByteArray) (n : Int) (ws : List AV) (rs : List AV) : ev R3 57 [lbE ps fs cs ts d u, iA (Int.ofNat k)] [.chk [.agg [sA a, iA n, .rsl 1 ws false]], .loop 0 [1, 2, 5, 6, 7] [2, 6] [5] [2, 6] (.exit 0) [.rsl 1 rs false] [lbX ps fs cs ts d u, (false, .box [sA a, iA n, .rsl 1 ws false])]] =
  (.need (ts[k]? = (some (AV.agg [sA a, iA n, .rsl 1 ws false]))) (.need (EnC [lbX ps fs cs ts d u, (false, .box [sA a, iA n, .rsl 1 ws false])] ∧ EnC [lbX ps fs cs ts d u, (false, .box [sA a, iA n, .rsl 1 ws false])] ∧ Says (CS R3) 0 37 false (.loop (lO (CS R3) 57 0)) (mkSt [1, 2, 5, 6, 7] [2, 6] 37 [iA (Int.ofNat k), .ptr 2 0 0, .v (.slice none 0 0), .ptr 6 1 0, iA 0] [lbX ps fs cs ts d u, (false, .box [sA a, iA n, .rsl 1 ws false])]) (.exit 0) (mkSt [5] [2, 6] 37 [.rsl 1 rs false] [lbX ps fs cs ts d u, (false, .box [sA a, iA n, .rsl 1 ws false])])) (.done (some (.rsl 1 rs false))))) := by kernel_rfl
def ts0 : Ts := (⟨#[]⟩, 0, [])
def tsAt (x : Lb) (k : Nat) : Ts := (x.2.2.2.1[k]?).getD ts0
theorem tsAt_get {x : Lb} {k : Nat} (h : k < x.2.2.2.1.length) : x.2.2.2.1[k]? = some (tsAt x k) := by
 unfold tsAt
 rw [List.getElem?_eq_getElem h]; rfl
def wrgM (x : Lb) (k : Nat) : List ByteArray := (tsAt x k).2.2.map fun p => stM x p (tsAt x k).2.1 (x.2.2.2.1.take k)
def wrg57G : List AV → Option AV := sp2 labC intC fun x i => bif okLb x && (decide (labM x = 0) && (decide (0 ≤ i) && decide (i.toNat < x.2.2.2.1.length))) then some (slA strC 1 (wrgM x i.toNat)) else none
theorem spSt {x : Lb} {l : List Ts} (s : ByteArray) (day : Int) (h : okLb x = true) (hz : labM x = 0) (h1 : (Nat.ble l.length lim && l.all okT) = true) : st139G [lbA x, sA s, iA day, slA tsC 3 l] = some (sA (stM x s day l)) := by
 have := sp4_at (A := labC) (B := strC) (D := intC) (E := tssC) (F := fun x s day l => bif okLb x && (decide (labM x = 0) && (Nat.ble l.length lim && l.all okT)) then some (sA (stM x s day l)) else none) x s day l
 rw [h, decide_eq_true hz, h1] at this; exact this
theorem okTake {x : Lb} (h : okLb x = true) (k : Nat) : (Nat.ble (x.2.2.2.1.take k).length lim && (x.2.2.2.1.take k).all okT) = true := by
 have K := okLb_at h
 rw [Bool.and_eq_true, List.all_eq_true]
 refine ⟨Nat.ble_eq_true_of_le (by have := K.ts; rw [List.length_take]; omega), fun t ht => K.ws t (List.mem_of_mem_take ht)⟩
theorem loop57 (x : Lb) (hok : okLb x = true) (hz : labM x = 0) (k : Nat) (hk : k < x.2.2.2.1.length) (t : Ts) (ht : okT t = true) :
  LoopRun (CS R3) 0 37 false (lO (CS R3) 57 0) (mkSt [1, 2, 5, 6, 7] [2, 6] 37 [iA (Int.ofNat k), .ptr 2 0 0, nilS, .ptr 6 1 0, iA 0] [lbY x, tsX t]) (.exit 0)
   (mkSt [5] [2, 6] 37 [.rsl 1 ((t.2.2.map fun p => stM x p t.2.1 (x.2.2.2.1.take k)).map strC.enc) false] [lbY x, tsX t]) := by
 have hlim := Nat.le_of_ble_eq_true ht
 have hl := limTwo hlim
 have q1 : (0 ≤ k ∧ k ≤ (x.2.2.2.1.map tsC.enc).length) := ⟨Nat.zero_le _, by rw [List.length_map]; omega⟩
 have q2 : ∀ p : ByteArray, ([lbA x, sA p, iA t.2.1, .rsl 3 (List.take (k - 0) (List.drop 0 (x.2.2.2.1.map tsC.enc))) false] : List AV) = [lbA x, sA p, iA t.2.1, slA tsC 3 (x.2.2.2.1.take k)] := fun p => by rw [take_map]; rfl
 have q3 : ∀ p : ByteArray, st139G ([lbA x, sA p, iA t.2.1, .rsl 3 (List.take (k - 0) (List.drop 0 (x.2.2.2.1.map tsC.enc))) false] : List AV) = some (sA (stM x p t.2.1 (x.2.2.2.1.take k))) := fun p => by
  rw [q2]; exact spSt p _ hok hz (okTake hok k)
 exact LoopRun.buildsB (C := CS R3) (p := 0) (nt := 37) (rd := false) (c := lO (CS R3) 57 0) strC.enc (fun m => closedStr m) (fun p : ByteArray => stM x p t.2.1 (x.2.2.2.1.take k)) 35 1 [1, 2, 5, 6, 7] [2, 6] 37
  (fun j a => [iA (Int.ofNat k), .ptr 2 0 0, a, .ptr 6 1 0, iA (Int.ofNat j)]) (fun _ _ => [lbY x, tsX t]) t.2.2 (.exit 0) [5] (fun a => [a]) (fun _ => [lbY x, tsX t]) (by simp) (by decide) (by rfl) (fun _ => rfl)
  (fun es n hn => .cons (FzS.sl hn) .nil)
  (fun es n hn => .cons (.box (.cons (FzS.cl rfl) (.cons (FzS.cl rfl) (.cons (FzS.cl rfl) (.cons (FzS.cl rfl) (.cons (FzS.cl rfl) (.cons (FzS.cl rfl) .nil))))))) (.cons (.box (.cons (FzS.cl rfl) (.cons (FzS.cl rfl) (.cons (FzS.cl rfl) .nil)))) .nil))
  (.cons Weak.nilSl .nil) (.cons .rfl (.cons .rfl .nil))
  (fun j p hp => by
   have hj := lt_len hp
   have hlt : decide (Int.ofNat j < Int.ofNat (t.2.2.map strC.enc).length) = true := by rw [e_st]; exact lt_of hj
   have hr := (lx x r57a) k j t.1 t.2.1 (t.2.2.map strC.enc) p (stM x p t.2.1 (x.2.2.2.1.take k)) ((x.2.2.2.1.take k).map tsC.enc)
   rw [wrap_ix hj hl] at hr
   exact R3_ok.rndN hr ⟨hlt, get_map _ hp, q1, ⟨q2 p, q3 p⟩, ⟨closedStr [_], trivial⟩, rfl⟩)
  (fun j p rs hp hrs => by
   have hj := lt_len hp
   have hlt : decide (Int.ofNat j < Int.ofNat (t.2.2.map strC.enc).length) = true := by rw [e_st]; exact lt_of hj
   have hr := (lx x r57b) k j (rs.map strC.enc) (rs.map strC.enc).length t.1 t.2.1 (t.2.2.map strC.enc) p (stM x p t.2.1 (x.2.2.2.1.take k)) ((x.2.2.2.1.take k).map tsC.enc)
   rw [wrap_ix hj hl] at hr
   have hlen : (rs.map strC.enc ++ [strC.enc (stM x p t.2.1 (x.2.2.2.1.take k))]).length ≤ 1000001 := by rw [List.length_append, List.length_map]; unfold lim at hlim; simp; omega
   exact R3_ok.rndN hr ⟨hlt, get_map _ hp, q1, ⟨q2 p, q3 p⟩, ⟨rfl, rfl, rfl, by show (rs.map strC.enc ++ [strC.enc (stM x p t.2.1 (x.2.2.2.1.take k))]).length * 16 ≤ _; omega, by show (rs.map strC.enc ++ [strC.enc (stM x p t.2.1 (x.2.2.2.1.take k))]).length ≤ _; omega, by decide⟩, ⟨(closedStr rs).append (closedStr [_]), trivial⟩, rfl⟩)
  (R3_ok.rndX ((lx x r57xa) k t.2.2.length t.1 t.2.1 (t.2.2.map strC.enc)) ⟨by rw [e_st]; exact lt_self _, trivial, rfl⟩)
  (fun rs => R3_ok.rndX ((lx x r57xb) k t.2.2.length (rs.map strC.enc) (rs.map strC.enc).length t.1 t.2.1 (t.2.2.map strC.enc)) ⟨by rw [e_st]; exact lt_self _, ⟨closedStr rs, trivial⟩, rfl⟩)
theorem h57 : Holds 57 wrg57G := holds2 fun x i r hr => by
 cases hb : okLb x && (decide (labM x = 0) && (decide (0 ≤ i) && decide (i.toNat < x.2.2.2.1.length))) with
 | false => simp [hb] at hr
 | true =>
  simp only [hb, cond_true, Option.some.injEq] at hr; subst hr
  simp only [Bool.and_eq_true, decide_eq_true_eq] at hb
  obtain ⟨hok, hz, hi0, hi1⟩ := hb
  have hi : i = Int.ofNat i.toNat := by simp only [Int.ofNat_eq_natCast]; omega
  generalize hkk : i.toNat = k at hi hi1 ⊢
  subst hi
  have K := okLb_at hok
  have hg := tsAt_get hi1
  have h := loop57 x hok hz k hi1 (tsAt x k) (K.ws _ (List.mem_of_getElem? hg))
  exact R3_ok.tr ((lx x t57) k (tsAt x k).1 (tsAt x k).2.1 ((tsAt x k).2.2.map strC.enc) ((wrgM x k).map strC.enc)) ⟨get_map tsC.enc hg, ⟨trivial, trivial, h.says⟩, rfl⟩
noncomputable def R4 : Specs := (R3.set 57 wrg57G)
theorem R4_ok : Ok R4 := (R3_ok.set h57)
end Go.Vm.S3

namespace Go.Vm.S3
open Go.Proofs Go.RowKit
set_option maxRecDepth 100000
variable (ps fs cs ts : List AV) (d u : Int)
theorem r56an (j : Nat) (a : ByteArray) (n : Int) (ws : List AV) (y : ByteArray) (c : Int) : rn R4 56 45 0 [2, 5, 6, 7] [2, 6] [2, 5, 6, 7] [2, 6, 34] [5] [2, 6] [.ptr 2 0 0, nilS, .ptr 6 1 0, iA (Int.ofNat j)] [lbX ps fs cs ts d u, (false, .box [sA a, iA n, .rsl 1 ws false])] [.as 18 true, .chk [sA y], .sp [lbE ps fs cs ts d u, sA y, iA n] (iA c), .as 31 true] =
  (.need ((decide (Int.ofNat j < Int.ofNat ws.length)) = true) (.need (ws[j]? = (some (sA y))) (ak R4 138 [lbE ps fs cs ts d u, sA y, iA n] (iA c) (.need ((decide (c < 0)) = true) (dn [lbX ps fs cs ts d u, (false, .box [sA a, iA n, .rsl 1 ws false]), (false, .arr 1 [sA (ByteArray.mk #[])] false)] (.nrm, [.ptr 2 0 0, .sl 34 2 1 0 1, .ptr 6 1 0, iA (IntKind.i64.wrap (Int.ofNat j + 1))], [lbX ps fs cs ts d u, (false, .box [sA a, iA n, .rsl 1 ws false]), (false, .arr 1 [sA (ByteArray.mk #[])] false)])))))) := by kernel_rfl
theorem r56ay (j : Nat) (a : ByteArray) (n : Int) (ws : List AV) (y : ByteArray) (c : Nat) (a2 b2 c2 : ByteArray) (n2 : Int) (us : List AV) : rn R4 56 45 0 [2, 5, 6, 7] [2, 6] [2, 5, 6, 7] [2, 6, 43] [5] [2, 6] [.ptr 2 0 0, nilS, .ptr 6 1 0, iA (Int.ofNat j)] [lbX ps fs cs ts d u, (false, .box [sA a, iA n, .rsl 1 ws false])] [.as 18 true, .chk [sA y], .sp [lbE ps fs cs ts d u, sA y, iA n] (iA (Int.ofNat c)), .as 31 false, .chk [.agg [sA a2, sA b2, sA c2, iA n2, .rsl 1 us false]]] =
  (.need ((decide (Int.ofNat j < Int.ofNat ws.length)) = true) (.need (ws[j]? = (some (sA y))) (ak R4 138 [lbE ps fs cs ts d u, sA y, iA n] (iA (Int.ofNat c)) (.need ((decide (Int.ofNat c < 0)) = false) (.need (cs[c]? = (some (AV.agg [sA a2, sA b2, sA c2, iA n2, .rsl 1 us false]))) (dn [lbX ps fs cs ts d u, (false, .box [sA a, iA n, .rsl 1 ws false]), (false, .arr 1 [sA a2] false)] (.nrm, [.ptr 2 0 0, .sl 43 2 1 0 1, .ptr 6 1 0, iA (IntKind.i64.wrap (Int.ofNat j + 1))], [lbX ps fs cs ts d u, (false, .box [sA a, iA n, .rsl 1 ws false]), (false, .arr 1 [sA a2] false)]))))))) := by kernel_rfl
theorem r56ax (j : Nat) (a : ByteArray) (n : Int) (ws : List AV) : rn R4 56 45 0 [2, 5, 6, 7] [2, 6] [2, 5, 6, 7] [2, 6] [5] [2, 6] [.ptr 2 0 0, nilS, .ptr 6 1 0, iA (Int.ofNat j)] [lbX ps fs cs ts d u, (false, .box [sA a, iA n, .rsl 1 ws false])] [.as 18 false] =
  (.need ((decide (Int.ofNat j < Int.ofNat ws.length)) = false) (dn [lbX ps fs cs ts d u, (false, .box [sA a, iA n, .rsl 1 ws false])] ((.exit 0), [.v (.slice none 0 0)], [lbX ps fs cs ts d u, (false, .box [sA a, iA n, .rsl 1 ws false])]))) := by kernel_rfl
noncomputable abbrev pfS3R5_2 {R : Type} (ps fs cs ts : List AV) (d u : Int) (j : Nat) (rs : List AV) (m : Nat) (a : ByteArray) (n : Int) (ws : List AV) (y : ByteArray) (c : Int) (kk9 : Dt R) : Dt R :=
 (.need ((decide (Int.ofNat j < Int.ofNat ws.length)) = true) (.need (ws[j]? = (some (sA y))) (ak R4 138 [lbE ps fs cs ts d u, sA y, iA n] (iA c) (.need ((decide (c < 0)) = true) (.need (m = rs.length ∧ true = true ∧ 1 = 1 ∧ (rs ++ ([sA (ByteArray.mk #[])] : List AV)).length * 16 ≤ 35184372088832 ∧ (rs ++ ([sA (ByteArray.mk #[])] : List AV)).length ≤ 35184372088832 ∧ 16 ≠ 0) (.need (EnC [lbX ps fs cs ts d u, (false, .box [sA a, iA n, .rsl 1 ws false]), (false, .arr 1 (rs ++ ([sA (ByteArray.mk #[])] : List AV)) false)]) kk9))))))
theorem r56bn (j : Nat) (rs : List AV) (m : Nat) (a : ByteArray) (n : Int) (ws : List AV) (y : ByteArray) (c : Int) : rn R4 56 45 0 [2, 5, 6, 7] [2, 6, 34] [2, 5, 6, 7] [2, 6, 34] [5] [2, 6, 34] [.ptr 2 0 0, .sl 34 2 1 0 m, .ptr 6 1 0, iA (Int.ofNat j)] [lbX ps fs cs ts d u, (false, .box [sA a, iA n, .rsl 1 ws false]), (false, .arr 1 rs false)] [.as 18 true, .chk [sA y], .sp [lbE ps fs cs ts d u, sA y, iA n] (iA c), .as 31 true, .chk rs] =
  (pfS3R5_2 ps fs cs ts d u j rs m a n ws y c (.done (some ((.nrm, [.ptr 2 0 0, .sl 34 2 1 0 ((rs ++ ([sA (ByteArray.mk #[])] : List AV)).length), .ptr 6 1 0, iA (IntKind.i64.wrap (Int.ofNat j + 1))], [lbX ps fs cs ts d u, (false, .box [sA a, iA n, .rsl 1 ws false]), (false, .arr 1 (rs ++ ([sA (ByteArray.mk #[])] : List AV)) false)]))))) := by kernel_rfl
noncomputable abbrev pfS3R5_1 {R : Type} (ps fs cs ts : List AV) (d u : Int) (j : Nat) (rs : List AV) (m : Nat) (a : ByteArray) (n : Int) (ws : List AV) (y : ByteArray) (c : Nat) (a2 b2 c2 : ByteArray) (n2 : Int) (us : List AV) (kk9 : Dt R) : Dt R :=
 (.need ((decide (Int.ofNat j < Int.ofNat ws.length)) = true) (.need (ws[j]? = (some (sA y))) (ak R4 138 [lbE ps fs cs ts d u, sA y, iA n] (iA (Int.ofNat c)) (.need ((decide (Int.ofNat c < 0)) = false) (.need (cs[c]? = (some (AV.agg [sA a2, sA b2, sA c2, iA n2, .rsl 1 us false]))) (.need (m = rs.length ∧ true = true ∧ 1 = 1 ∧ (rs ++ ([sA a2] : List AV)).length * 16 ≤ 35184372088832 ∧ (rs ++ ([sA a2] : List AV)).length ≤ 35184372088832 ∧ 16 ≠ 0) (.need (EnC [lbX ps fs cs ts d u, (false, .box [sA a, iA n, .rsl 1 ws false]), (false, .arr 1 (rs ++ ([sA a2] : List AV)) false)]) kk9)))))))
theorem r56by (j : Nat) (rs : List AV) (m : Nat) (a : ByteArray) (n : Int) (ws : List AV) (y : ByteArray) (c : Nat) (a2 b2 c2 : ByteArray) (n2 : Int) (us : List AV) : rn R4 56 45 0 [2, 5, 6, 7] [2, 6, 34] [2, 5, 6, 7] [2, 6, 43] [5] [2, 6, 34] [.ptr 2 0 0, .sl 34 2 1 0 m, .ptr 6 1 0, iA (Int.ofNat j)] [lbX ps fs cs ts d u, (false, .box [sA a, iA n, .rsl 1 ws false]), (false, .arr 1 rs false)] [.as 18 true, .chk [sA y], .sp [lbE ps fs cs ts d u, sA y, iA n] (iA (Int.ofNat c)), .as 31 false, .chk [.agg [sA a2, sA b2, sA c2, iA n2, .rsl 1 us false]], .chk rs] =
  (pfS3R5_1 ps fs cs ts d u j rs m a n ws y c a2 b2 c2 n2 us (.done (some ((.nrm, [.ptr 2 0 0, .sl 43 2 1 0 ((rs ++ ([sA a2] : List AV)).length), .ptr 6 1 0, iA (IntKind.i64.wrap (Int.ofNat j + 1))], [lbX ps fs cs ts d u, (false, .box [sA a, iA n, .rsl 1 ws false]), (false, .arr 1 (rs ++ ([sA a2] : List AV)) false)]))))) := by kernel_rfl
theorem r56bx (j : Nat) (rs : List AV) (m : Nat) (a : ByteArray) (n : Int) (ws : List AV) : rn R4 56 45 0 [2, 5, 6, 7] [2, 6, 34] [2, 5, 6, 7] [2, 6, 34] [5] [2, 6, 34] [.ptr 2 0 0, .sl 34 2 1 0 m, .ptr 6 1 0, iA (Int.ofNat j)] [lbX ps fs cs ts d u, (false, .box [sA a, iA n, .rsl 1 ws false]), (false, .arr 1 rs false)] [.as 18 false] =
  (.need ((decide (Int.ofNat j < Int.ofNat ws.length)) = false) (dn [lbX ps fs cs ts d u, (false, .box [sA a, iA n, .rsl 1 ws false]), (false, .arr 1 rs false)] ((.exit 0), [.sl 34 2 1 0 m], [lbX ps fs cs ts d u, (false, .box [sA a, iA n, .rsl 1 ws false]), (false, .arr 1 rs false)]))) := by kernel_rfl
theorem r56cn (j : Nat) (rs : List AV) (m : Nat) (a : ByteArray) (n : Int) (ws : List AV) (y : ByteArray) (c : Int) : rn R4 56 45 0 [2, 5, 6, 7] [2, 6, 43] [2, 5, 6, 7] [2, 6, 34] [5] [2, 6, 43] [.ptr 2 0 0, .sl 43 2 1 0 m, .ptr 6 1 0, iA (Int.ofNat j)] [lbX ps fs cs ts d u, (false, .box [sA a, iA n, .rsl 1 ws false]), (false, .arr 1 rs false)] [.as 18 true, .chk [sA y], .sp [lbE ps fs cs ts d u, sA y, iA n] (iA c), .as 31 true, .chk rs] =
  (pfS3R5_2 ps fs cs ts d u j rs m a n ws y c (.done (some ((.nrm, [.ptr 2 0 0, .sl 34 2 1 0 ((rs ++ ([sA (ByteArray.mk #[])] : List AV)).length), .ptr 6 1 0, iA (IntKind.i64.wrap (Int.ofNat j + 1))], [lbX ps fs cs ts d u, (false, .box [sA a, iA n, .rsl 1 ws false]), (false, .arr 1 (rs ++ ([sA (ByteArray.mk #[])] : List AV)) false)]))))) := by kernel_rfl
theorem r56cy (j : Nat) (rs : List AV) (m : Nat) (a : ByteArray) (n : Int) (ws : List AV) (y : ByteArray) (c : Nat) (a2 b2 c2 : ByteArray) (n2 : Int) (us : List AV) : rn R4 56 45 0 [2, 5, 6, 7] [2, 6, 43] [2, 5, 6, 7] [2, 6, 43] [5] [2, 6, 43] [.ptr 2 0 0, .sl 43 2 1 0 m, .ptr 6 1 0, iA (Int.ofNat j)] [lbX ps fs cs ts d u, (false, .box [sA a, iA n, .rsl 1 ws false]), (false, .arr 1 rs false)] [.as 18 true, .chk [sA y], .sp [lbE ps fs cs ts d u, sA y, iA n] (iA (Int.ofNat c)), .as 31 false, .chk [.agg [sA a2, sA b2, sA c2, iA n2, .rsl 1 us false]], .chk rs] =
  (pfS3R5_1 ps fs cs ts d u j rs m a n ws y c a2 b2 c2 n2 us (.done (some ((.nrm, [.ptr 2 0 0, .sl 43 2 1 0 ((rs ++ ([sA a2] : List AV)).length), .ptr 6 1 0, iA (IntKind.i64.wrap (Int.ofNat j + 1))], [lbX ps fs cs ts d u, (false, .box [sA a, iA n, .rsl 1 ws false]), (false, .arr 1 (rs ++ ([sA a2] : List AV)) false)]))))) := by kernel_rfl
theorem r56cx (j : Nat) (rs : List AV) (m : Nat) (a : ByteArray) (n : Int) (ws : List AV) : rn R4 56 45 0 [2, 5, 6, 7] [2, 6, 43] [2, 5, 6, 7] [2, 6, 43] [5] [2, 6, 43] [.ptr 2 0 0, .sl 43 2 1 0 m, .ptr 6 1 0, iA (Int.ofNat j)] [lbX ps fs cs ts d u, (false, .box [sA a, iA n, .rsl 1 ws false]), (false, .arr 1 rs false)] [.as 18 false] =
  (.need ((decide (Int.ofNat j < Int.ofNat ws.length)) = false) (dn [lbX ps fs cs ts d u, (false, .box [sA a, iA n, .rsl 1 ws false]), (false, .arr 1 rs false)] ((.exit 0), [.sl 43 2 1 0 m], [lbX ps fs cs ts d u, (false, .box [sA a, iA n, .rsl 1 ws false]), (false, .arr 1 rs false)]))) := by kernel_rfl
theorem t56 (k : Nat) (a : ByteArray) (n : Int) (ws : List AV) (rs : List AV) : ev R4 56 [lbE ps fs cs ts d u, iA (Int.ofNat k)] [.chk [.agg [sA a, iA n, .rsl 1 ws false]], .loop 0 [2, 5, 6, 7] [2, 6] [5] [2, 6] (.exit 0) [.rsl 1 rs false] [lbX ps fs cs ts d u, (false, .box [sA a, iA n, .rsl 1 ws false])]] =
  (.need (ts[k]? = (some (AV.agg [sA a, iA n, .rsl 1 ws false]))) (.need (EnC [lbX ps fs cs ts d u, (false, .box [sA a, iA n, .rsl 1 ws false])] ∧ EnC [lbX ps fs cs ts d u, (false, .box [sA a, iA n, .rsl 1 ws false])] ∧ Says (CS R4) 0 45 false (.loop (lO (CS R4) 56 0)) (mkSt [2, 5, 6, 7] [2, 6] 45 [.ptr 2 0 0, .v (.slice none 0 0), .ptr 6 1 0, iA 0] [lbX ps fs cs ts d u, (false, .box [sA a, iA n, .rsl 1 ws false])]) (.exit 0) (mkSt [5] [2, 6] 45 [.rsl 1 rs false] [lbX ps fs cs ts d u, (false, .box [sA a, iA n, .rsl 1 ws false])])) (.done (some (.rsl 1 rs false))))) := by kernel_rfl
def rstM1 (x : Lb) (day : Int) (p : ByteArray) : ByteArray := bif decide (cntM x p day < 0) then ⟨#[]⟩ else (cbAt x (cntM x p day).toNat).1
def rstM (x : Lb) (k : Nat) : List ByteArray := (tsAt x k).2.2.map (rstM1 x (tsAt x k).2.1)
def rst56G : List AV → Option AV := sp2 labC intC fun x i => bif okLb x && (decide (0 ≤ i) && decide (i.toNat < x.2.2.2.1.length)) then some (slA strC 1 (rstM x i.toNat)) else none
def kOf (x : Lb) (t : Ts) (j : Nat) : Nat := bif decide (cntM x ((t.2.2[j - 1]?).getD ⟨#[]⟩) t.2.1 < 0) then 34 else 43
theorem kOf_or (x : Lb) (t : Ts) (j : Nat) : kOf x t j = 34 ∨ kOf x t j = 43 := by
 unfold kOf
 cases decide (cntM x ((t.2.2[j - 1]?).getD ⟨#[]⟩) t.2.1 < 0) with
 | true => exact .inl rfl
 | false => exact .inr rfl
theorem kOf_at {x : Lb} {t : Ts} {j : Nat} {p : ByteArray} (h : t.2.2[j]? = some p) : kOf x t (j + 1) = bif decide (cntM x p t.2.1 < 0) then 34 else 43 := by
 unfold kOf
 rw [Nat.add_sub_cancel, h]; rfl
theorem blG_snoc {key sz : Nat} {ts : List Tmp} {ks : List Nat} {nf : Nat} {vs : AV → List AV} {bs : AV → List (Bool × Blk)} (acc : List ByteArray) (p : ByteArray) :
  blG key sz ts ks nf vs bs ((acc ++ [p]).map strC.enc) = mkSt ts (ks ++ [key]) nf (vs (.sl key ks.length sz 0 (acc.map strC.enc ++ [strC.enc p]).length)) (bs (.sl key ks.length sz 0 (acc.map strC.enc ++ [strC.enc p]).length) ++ [(false, .arr sz (acc.map strC.enc ++ [strC.enc p]) false)]) := by
 rw [List.map_append]
 cases acc with
 | nil => rfl
 | cons w wl => rfl
theorem loop56 (x : Lb) (hok : okLb x = true) (t : Ts) (ht : okT t = true) :
  LoopRun (CS R4) 0 45 false (lO (CS R4) 56 0) (mkSt [2, 5, 6, 7] [2, 6] 45 [.ptr 2 0 0, nilS, .ptr 6 1 0, iA 0] [lbY x, tsX t]) (.exit 0)
   (mkSt [5] [2, 6] 45 [.rsl 1 ((t.2.2.map (rstM1 x t.2.1)).map strC.enc) false] [lbY x, tsX t]) := by
 have hlim := Nat.le_of_ble_eq_true ht
 have hl := limTwo hlim
 have h := LoopRun.gather (C := CS R4) (p := 0) (nt := 45) (rd := false) (c := lO (CS R4) 56 0) (fun _ (p : ByteArray) => [rstM1 x t.2.1 p]) 1 (by simp)
  (fun j (acc : List ByteArray) => blG (kOf x t j) 1 [2, 5, 6, 7] [2, 6] 45 (fun a => [.ptr 2 0 0, a, .ptr 6 1 0, iA (Int.ofNat j)]) (fun _ => [lbY x, tsX t]) (acc.map strC.enc)) (.exit 0)
  (fun acc => mkSt [5] [2, 6] 45 [.rsl 1 (acc.map strC.enc) false] [lbY x, tsX t]) t.2.2 (by simp)
  (fun j p acc hp hacc => by
   have hj := lt_len hp
   have hlt : decide (Int.ofNat j < Int.ofNat (t.2.2.map strC.enc).length) = true := by rw [e_st]; exact lt_of hj
   have hg := get_map strC.enc hp
   have hw := wrap_ix hj hl
   have hlen : ∀ z : ByteArray, (acc.map strC.enc ++ [strC.enc z]).length ≤ 1000001 := fun z => by rw [List.length_append, List.length_map]; unfold lim at hlim; simp at hacc ⊢; omega
   have hnd : ∀ z : ByteArray, (acc.length = (acc.map strC.enc).length) ∧ True := fun _ => ⟨by simp, trivial⟩
   have hs := spCnt p t.2.1 hok
   show Says (CS R4) 0 45 false (lO (CS R4) 56 0) (blG (kOf x t j) 1 [2, 5, 6, 7] [2, 6] 45 _ _ (acc.map strC.enc)) .nrm (blG (kOf x t (j + 1)) 1 [2, 5, 6, 7] [2, 6] 45 (fun a => [.ptr 2 0 0, a, .ptr 6 1 0, iA (Int.ofNat (j + 1))]) (fun _ => [lbY x, tsX t]) ((acc ++ [rstM1 x t.2.1 p]).map strC.enc))
   rw [blG_snoc, kOf_at hp]
   unfold rstM1
   rcases cnt_at x p t.2.1 with hk | ⟨k, hkl, hk, _⟩
   ·rw [hk] at hs ⊢
    have hnn : decide ((-1 : Int) < 0) = true := rfl
    rw [hnn, cond_true, cond_true]
    cases acc with
    | nil =>
     have hr := (lx x r56an) j t.1 t.2.1 (t.2.2.map strC.enc) p (-1)
     rw [hw] at hr
     exact R4_ok.rndN hr ⟨hlt, hg, ⟨rfl, hs⟩, rfl, ⟨closedStr [_], trivial⟩, rfl⟩
    | cons w wl =>
     rcases kOf_or x t j with e | e
     ·rw [e]
      have hr := (lx x r56bn) j ((w :: wl).map strC.enc) ((w :: wl).map strC.enc).length t.1 t.2.1 (t.2.2.map strC.enc) p (-1)
      rw [hw] at hr
      have hl2 := hlen ⟨#[]⟩
      exact R4_ok.rndN hr ⟨hlt, hg, ⟨rfl, hs⟩, rfl, ⟨rfl, rfl, rfl, by show ((w :: wl).map strC.enc ++ [strC.enc ⟨#[]⟩]).length * 16 ≤ _; omega, by show ((w :: wl).map strC.enc ++ [strC.enc ⟨#[]⟩]).length ≤ _; omega, by decide⟩, ⟨(closedStr (w :: wl)).append (closedStr [_]), trivial⟩, rfl⟩
     ·rw [e]
      have hr := (lx x r56cn) j ((w :: wl).map strC.enc) ((w :: wl).map strC.enc).length t.1 t.2.1 (t.2.2.map strC.enc) p (-1)
      rw [hw] at hr
      have hl2 := hlen ⟨#[]⟩
      exact R4_ok.rndN hr ⟨hlt, hg, ⟨rfl, hs⟩, rfl, ⟨rfl, rfl, rfl, by show ((w :: wl).map strC.enc ++ [strC.enc ⟨#[]⟩]).length * 16 ≤ _; omega, by show ((w :: wl).map strC.enc ++ [strC.enc ⟨#[]⟩]).length ≤ _; omega, by decide⟩, ⟨(closedStr (w :: wl)).append (closedStr [_]), trivial⟩, rfl⟩
   ·rw [hk] at hs ⊢
    have hnn : decide (Int.ofNat k < 0) = false := decide_eq_false (by simp)
    rw [hnn, cond_false, cond_false, show (Int.ofNat k).toNat = k from rfl]
    have hgc := get_map cbC.enc (cbAt_get hkl)
    generalize cbAt x k = c at hgc ⊢
    cases acc with
    | nil =>
     have hr := (lx x r56ay) j t.1 t.2.1 (t.2.2.map strC.enc) p k c.1 c.2.1 c.2.2.1 c.2.2.2.1 (c.2.2.2.2.map intC.enc)
     rw [hw] at hr
     exact R4_ok.rndN hr ⟨hlt, hg, ⟨rfl, hs⟩, hnn, hgc, ⟨closedStr [_], trivial⟩, rfl⟩
    | cons w wl =>
     have hl2 := hlen c.1
     rcases kOf_or x t j with e | e
     ·rw [e]
      have hr := (lx x r56by) j ((w :: wl).map strC.enc) ((w :: wl).map strC.enc).length t.1 t.2.1 (t.2.2.map strC.enc) p k c.1 c.2.1 c.2.2.1 c.2.2.2.1 (c.2.2.2.2.map intC.enc)
      rw [hw] at hr
      exact R4_ok.rndN hr ⟨hlt, hg, ⟨rfl, hs⟩, hnn, hgc, ⟨rfl, rfl, rfl, by show ((w :: wl).map strC.enc ++ [strC.enc c.1]).length * 16 ≤ _; omega, by show ((w :: wl).map strC.enc ++ [strC.enc c.1]).length ≤ _; omega, by decide⟩, ⟨(closedStr (w :: wl)).append (closedStr [_]), trivial⟩, rfl⟩
     ·rw [e]
      have hr := (lx x r56cy) j ((w :: wl).map strC.enc) ((w :: wl).map strC.enc).length t.1 t.2.1 (t.2.2.map strC.enc) p k c.1 c.2.1 c.2.2.1 c.2.2.2.1 (c.2.2.2.2.map intC.enc)
      rw [hw] at hr
      exact R4_ok.rndN hr ⟨hlt, hg, ⟨rfl, hs⟩, hnn, hgc, ⟨rfl, rfl, rfl, by show ((w :: wl).map strC.enc ++ [strC.enc c.1]).length * 16 ≤ _; omega, by show ((w :: wl).map strC.enc ++ [strC.enc c.1]).length ≤ _; omega, by decide⟩, ⟨(closedStr (w :: wl)).append (closedStr [_]), trivial⟩, rfl⟩)
  (fun acc _ => by
   refine Says.blEndG (key := kOf x t t.2.2.length) (ks := [2, 6]) (vs := fun a => [a]) (bs := fun _ => [lbY x, tsX t]) (acc := acc.map strC.enc) ?_ (by decide) (by rcases kOf_or x t t.2.2.length with e | e <;> rw [e] <;> rfl) (fun _ => rfl) (closedStr acc)
    (.cons (FzS.sl rfl) .nil)
    (.cons (.box (.cons (FzS.cl rfl) (.cons (FzS.cl rfl) (.cons (FzS.cl rfl) (.cons (FzS.cl rfl) (.cons (FzS.cl rfl) (.cons (FzS.cl rfl) .nil))))))) (.cons (.box (.cons (FzS.cl rfl) (.cons (FzS.cl rfl) (.cons (FzS.cl rfl) .nil)))) .nil))
    (.cons Weak.nilSl .nil) (.cons .rfl (.cons .rfl .nil))
   cases acc with
   | nil => exact R4_ok.rndX ((lx x r56ax) t.2.2.length t.1 t.2.1 (t.2.2.map strC.enc)) ⟨by rw [e_st]; exact lt_self _, trivial, rfl⟩
   | cons w wl =>
    rcases kOf_or x t t.2.2.length with e | e
    ·rw [e]
     exact R4_ok.rndX ((lx x r56bx) t.2.2.length ((w :: wl).map strC.enc) ((w :: wl).map strC.enc).length t.1 t.2.1 (t.2.2.map strC.enc)) ⟨by rw [e_st]; exact lt_self _, ⟨closedStr (w :: wl), trivial⟩, rfl⟩
    ·rw [e]
     exact R4_ok.rndX ((lx x r56cx) t.2.2.length ((w :: wl).map strC.enc) ((w :: wl).map strC.enc).length t.1 t.2.1 (t.2.2.map strC.enc)) ⟨by rw [e_st]; exact lt_self _, ⟨closedStr (w :: wl), trivial⟩, rfl⟩)
 rw [gath_map1] at h
 exact h
theorem h56 : Holds 56 rst56G := holds2 fun x i r hr => by
 cases hb : okLb x && (decide (0 ≤ i) && decide (i.toNat < x.2.2.2.1.length)) with
 | false => simp [hb] at hr
 | true =>
  simp only [hb, cond_true, Option.some.injEq] at hr; subst hr
  simp only [Bool.and_eq_true, decide_eq_true_eq] at hb
  obtain ⟨hok, hi0, hi1⟩ := hb
  have hi : i = Int.ofNat i.toNat := by simp only [Int.ofNat_eq_natCast]; omega
  generalize hkk : i.toNat = k at hi hi1 ⊢
  subst hi
  have K := okLb_at hok
  have hg := tsAt_get hi1
  have h := loop56 x hok (tsAt x k) (K.ws _ (List.mem_of_getElem? hg))
  exact R4_ok.tr ((lx x t56) k (tsAt x k).1 (tsAt x k).2.1 ((tsAt x k).2.2.map strC.enc) ((rstM x k).map strC.enc)) ⟨get_map tsC.enc hg, ⟨trivial, trivial, h.says⟩, rfl⟩
noncomputable def R5 : Specs := (R4.set 56 rst56G)
theorem R5_ok : Ok R5 := (R4_ok.set h56)
end Go.Vm.S3

namespace Go.Vm.S3
open Go.Proofs Go.RowKit
set_option maxRecDepth 100000
variable (ps fs cs ts : List AV) (d u : Int)
noncomputable abbrev pfS3R6_1 {R : Type} (ps fs cs ts : List AV) (d u : Int) (s : ByteArray) (i : Nat) (rs1 : List AV) (q : Bool) (kk9 : Dt R) : Dt R :=
 (.need ((decide (Int.ofNat i < Int.ofNat ts.length)) = true) (ak R5 56 [lbE ps fs cs ts d u, iA (Int.ofNat i)] (AV.rsl 1 rs1 false) (ak R5 77 [.rsl 1 rs1 false, sA s] (bA q) kk9)))
theorem r58na (s : ByteArray) (i : Nat) (rs1 : List AV) (q : Bool) : rn R5 58 29 0 [1, 2, 5, 6] [2] [1, 2, 5, 6] [2] [5] [2] [sA s, .ptr 2 0 0, nilS, iA (Int.ofNat i)] [lbX ps fs cs ts d u] [.as 11 true, .sp [lbE ps fs cs ts d u, iA (Int.ofNat i)] (.rsl 1 rs1 false), .sp [.rsl 1 rs1 false, sA s] (bA q), .as 18 false] =
  (pfS3R6_1 ps fs cs ts d u s i rs1 q (.need (q = false) (dn [lbX ps fs cs ts d u] (.nrm, [sA s, .ptr 2 0 0, .v (.slice none 0 0), iA (IntKind.i64.wrap (Int.ofNat i + 1))], [lbX ps fs cs ts d u])))) := by kernel_rfl
theorem r58ya (s : ByteArray) (i : Nat) (rs1 : List AV) (q : Bool) (a : ByteArray) (n : Int) (ws : List AV) : rn R5 58 29 0 [1, 2, 5, 6] [2] [1, 2, 5, 6] [2, 27] [5] [2] [sA s, .ptr 2 0 0, nilS, iA (Int.ofNat i)] [lbX ps fs cs ts d u] [.as 11 true, .sp [lbE ps fs cs ts d u, iA (Int.ofNat i)] (.rsl 1 rs1 false), .sp [.rsl 1 rs1 false, sA s] (bA q), .as 18 true, .chk [.agg [sA a, iA n, .rsl 1 ws false]]] =
  (pfS3R6_1 ps fs cs ts d u s i rs1 q (.need (q = true) (.need (ts[i]? = (some (AV.agg [sA a, iA n, .rsl 1 ws false]))) (dn [lbX ps fs cs ts d u, (false, .arr 1 [sA a] false)] (.nrm, [sA s, .ptr 2 0 0, .sl 27 1 1 0 1, iA (IntKind.i64.wrap (Int.ofNat i + 1))], [lbX ps fs cs ts d u, (false, .arr 1 [sA a] false)]))))) := by kernel_rfl
theorem r58xa (s : ByteArray) (i : Nat) : rn R5 58 29 0 [1, 2, 5, 6] [2] [1, 2, 5, 6] [2] [5] [2] [sA s, .ptr 2 0 0, nilS, iA (Int.ofNat i)] [lbX ps fs cs ts d u] [.as 11 false] =
  (.need ((decide (Int.ofNat i < Int.ofNat ts.length)) = false) (dn [lbX ps fs cs ts d u] ((.exit 0), [.v (.slice none 0 0)], [lbX ps fs cs ts d u]))) := by kernel_rfl
theorem r58nb (s : ByteArray) (i : Nat) (rs : List AV) (m : Nat) (rs1 : List AV) (q : Bool) : rn R5 58 29 0 [1, 2, 5, 6] [2, 27] [1, 2, 5, 6] [2, 27] [5] [2, 27] [sA s, .ptr 2 0 0, .sl 27 1 1 0 m, iA (Int.ofNat i)] [lbX ps fs cs ts d u, (false, .arr 1 rs false)] [.as 11 true, .sp [lbE ps fs cs ts d u, iA (Int.ofNat i)] (.rsl 1 rs1 false), .sp [.rsl 1 rs1 false, sA s] (bA q), .as 18 false] =
  (pfS3R6_1 ps fs cs ts d u s i rs1 q (.need (q = false) (dn [lbX ps fs cs ts d u, (false, .arr 1 rs false)] (.nrm, [sA s, .ptr 2 0 0, .sl 27 1 1 0 m, iA (IntKind.i64.wrap (Int.ofNat i + 1))], [lbX ps fs cs ts d u, (false, .arr 1 rs false)])))) := by kernel_rfl
theorem r58yb (s : ByteArray) (i : Nat) (rs : List AV) (m : Nat) (rs1 : List AV) (q : Bool) (a : ByteArray) (n : Int) (ws : List AV) : rn R5 58 29 0 [1, 2, 5, 6] [2, 27] [1, 2, 5, 6] [2, 27] [5] [2, 27] [sA s, .ptr 2 0 0, .sl 27 1 1 0 m, iA (Int.ofNat i)] [lbX ps fs cs ts d u, (false, .arr 1 rs false)] [.as 11 true, .sp [lbE ps fs cs ts d u, iA (Int.ofNat i)] (.rsl 1 rs1 false), .sp [.rsl 1 rs1 false, sA s] (bA q), .as 18 true, .chk [.agg [sA a, iA n, .rsl 1 ws false]], .chk rs] =
  (pfS3R6_1 ps fs cs ts d u s i rs1 q (.need (q = true) (.need (ts[i]? = (some (AV.agg [sA a, iA n, .rsl 1 ws false]))) (.need (m = rs.length ∧ true = true ∧ 1 = 1 ∧ (rs ++ ([sA a] : List AV)).length * 16 ≤ 35184372088832 ∧ (rs ++ ([sA a] : List AV)).length ≤ 35184372088832 ∧ 16 ≠ 0) (dn [lbX ps fs cs ts d u, (false, .arr 1 (rs ++ ([sA a] : List AV)) false)] (.nrm, [sA s, .ptr 2 0 0, .sl 27 1 1 0 ((rs ++ ([sA a] : List AV)).length), iA (IntKind.i64.wrap (Int.ofNat i + 1))], [lbX ps fs cs ts d u, (false, .arr 1 (rs ++ ([sA a] : List AV)) false)])))))) := by kernel_rfl
theorem r58xb (s : ByteArray) (i : Nat) (rs : List AV) (m : Nat) : rn R5 58 29 0 [1, 2, 5, 6] [2, 27] [1, 2, 5, 6] [2, 27] [5] [2, 27] [sA s, .ptr 2 0 0, .sl 27 1 1 0 m, iA (Int.ofNat i)] [lbX ps fs cs ts d u, (false, .arr 1 rs false)] [.as 11 false] =
  (.need ((decide (Int.ofNat i < Int.ofNat ts.length)) = false) (dn [lbX ps fs cs ts d u, (false, .arr 1 rs false)] ((.exit 0), [.sl 27 1 1 0 m], [lbX ps fs cs ts d u, (false, .arr 1 rs false)]))) := by kernel_rfl
theorem t58 (s : ByteArray) (rs : List AV) : ev R5 58 [lbE ps fs cs ts d u, sA s] [.loop 0 [1, 2, 5, 6] [2] [5] [2] (.exit 0) [.rsl 1 rs false] [lbX ps fs cs ts d u]] =
  (.need (EnC [lbX ps fs cs ts d u] ∧ EnC [lbX ps fs cs ts d u] ∧ Says (CS R5) 0 29 false (.loop (lO (CS R5) 58 0)) (mkSt [1, 2, 5, 6] [2] 29 [sA s, .ptr 2 0 0, .v (.slice none 0 0), iA 0] [lbX ps fs cs ts d u]) (.exit 0) (mkSt [5] [2] 29 [.rsl 1 rs false] [lbX ps fs cs ts d u])) (.done (some (.rsl 1 rs false)))) := by kernel_rfl
def reaG (x : Lb) (s : ByteArray) (i : Nat) (t : Ts) : List ByteArray := bif hasWordM (rstM x i) s then [t.1] else []
def reaM (x : Lb) (s : ByteArray) : List ByteArray := gath (reaG x s) 0 x.2.2.2.1
def rea58G : List AV → Option AV := sp2 labC strC fun x s => bif okLb x then some (slA strC 1 (reaM x s)) else none
theorem spRst {x : Lb} {k : Nat} (h : okLb x = true) (hk : k < x.2.2.2.1.length) : rst56G [lbA x, iA (Int.ofNat k)] = some (slA strC 1 (rstM x k)) := by
 have := sp2_at (A := labC) (B := intC) (F := fun x i => bif okLb x && (decide (0 ≤ i) && decide (i.toNat < x.2.2.2.1.length)) then some (slA strC 1 (rstM x i.toNat)) else none) x (Int.ofNat k)
 rw [h, show decide ((0 : Int) ≤ Int.ofNat k) = true from decide_eq_true (by simp), show (Int.ofNat k).toNat = k from rfl, decide_eq_true hk] at this
 exact this
theorem h58 : Holds 58 rea58G := holds2 fun x s r hr => by
 cases hb : okLb x with
 | false => simp [hb] at hr
 | true =>
  simp only [hb, cond_true, Option.some.injEq] at hr; subst hr
  have K := okLb_at hb
  have hlim := K.ts
  have hl := limTwo hlim
  have hw : ∀ i t, x.2.2.2.1[i]? = some t → hwG [slA strC 1 (rstM x i), sA s] = some (bA (hasWordM (rstM x i) s)) := fun i t ht => by
   refine spHw s (blt_lim ?_)
   have hg := tsAt_get (lt_len ht)
   have := Nat.le_of_ble_eq_true (K.ws _ (List.mem_of_getElem? hg))
   unfold rstM; rw [List.length_map]; exact this
  have hgl : ∀ i t, (reaG x s i t).length ≤ 1 := fun i t => by unfold reaG; cases hasWordM (rstM x i) s <;> simp
  have hno : ∀ {i t}, reaG x s i t = [] → hasWordM (rstM x i) s = false := fun {i t} h => by
   unfold reaG at h
   cases hq : hasWordM (rstM x i) s with
   | false => rfl
   | true => rw [hq] at h; cases h
  have hyes : ∀ {i t y}, reaG x s i t = [y] → hasWordM (rstM x i) s = true ∧ y = t.1 := fun {i t y} h => by
   unfold reaG at h
   cases hq : hasWordM (rstM x i) s with
   | false => rw [hq] at h; cases h
   | true => rw [hq] at h; simp only [cond_true, List.cons.injEq, and_true] at h; exact ⟨rfl, h.symm⟩
  have h := LoopRun.pushes (C := CS R5) (p := 0) (nt := 29) (rd := false) (c := lO (CS R5) 58 0) strC.enc (reaG x s) hgl (key := 27) (sz := 1) (ts := [1, 2, 5, 6]) (ks := [2]) (fun i a => [sA s, .ptr 2 0 0, a, iA (Int.ofNat i)]) (fun _ => [lbY x])
   (nf := 29) (ts2 := [5]) (fun a => [a]) (ex := .exit 0) x.2.2.2.1 (by simp) (by decide) (by decide) (fun _ => rfl) (fun _ => rfl)
   (fun es n hn => .cons (FzS.sl hn) .nil) (fun es n hn => .cons (.box (.cons (FzS.cl rfl) (.cons (FzS.cl rfl) (.cons (FzS.cl rfl) (.cons (FzS.cl rfl) (.cons (FzS.cl rfl) (.cons (FzS.cl rfl) .nil))))))) .nil) (.cons Weak.nilSl .nil) (.cons .rfl .nil)
   (fun i t ht hg => by
    have hi := lt_len ht
    have hlt : decide (Int.ofNat i < Int.ofNat (x.2.2.2.1.map tsC.enc).length) = true := by rw [e_ts]; exact lt_of hi
    have f := hw i t ht
    rw [hno hg] at f
    have hr := (lx x r58na) s i ((rstM x i).map strC.enc) false
    rw [wrap_ix hi hl] at hr
    exact R5_ok.rndN hr ⟨hlt, ⟨rfl, spRst hb hi⟩, ⟨rfl, f⟩, rfl, trivial, rfl⟩)
   (fun i t rs ht hg hc => by
    have hi := lt_len ht
    have hlt : decide (Int.ofNat i < Int.ofNat (x.2.2.2.1.map tsC.enc).length) = true := by rw [e_ts]; exact lt_of hi
    have f := hw i t ht
    rw [hno hg] at f
    have hr := (lx x r58nb) s i rs rs.length ((rstM x i).map strC.enc) false
    rw [wrap_ix hi hl] at hr
    exact R5_ok.rndN hr ⟨hlt, ⟨rfl, spRst hb hi⟩, ⟨rfl, f⟩, rfl, ⟨hc, trivial⟩, rfl⟩)
   (fun i t y ht hg => by
    have hi := lt_len ht
    have hlt : decide (Int.ofNat i < Int.ofNat (x.2.2.2.1.map tsC.enc).length) = true := by rw [e_ts]; exact lt_of hi
    obtain ⟨h1, rfl⟩ := hyes hg
    have f := hw i t ht
    rw [h1] at f
    have hr := (lx x r58ya) s i ((rstM x i).map strC.enc) true t.1 t.2.1 (t.2.2.map strC.enc)
    rw [wrap_ix hi hl] at hr
    exact R5_ok.rndN hr ⟨hlt, ⟨rfl, spRst hb hi⟩, ⟨rfl, f⟩, rfl, get_map tsC.enc ht, ⟨closedStr [t.1], trivial⟩, rfl⟩)
   (fun i t y rs ht hg hc hrs => by
    have hi := lt_len ht
    have hlt : decide (Int.ofNat i < Int.ofNat (x.2.2.2.1.map tsC.enc).length) = true := by rw [e_ts]; exact lt_of hi
    obtain ⟨h1, rfl⟩ := hyes hg
    have f := hw i t ht
    rw [h1] at f
    have hlen : (rs ++ [strC.enc t.1]).length ≤ 1000001 := by rw [List.length_append]; unfold lim at hlim; simp; omega
    have hr := (lx x r58yb) s i rs rs.length ((rstM x i).map strC.enc) true t.1 t.2.1 (t.2.2.map strC.enc)
    rw [wrap_ix hi hl] at hr
    exact R5_ok.rndN hr ⟨hlt, ⟨rfl, spRst hb hi⟩, ⟨rfl, f⟩, rfl, get_map tsC.enc ht, ⟨rfl, rfl, rfl, by show (rs ++ [strC.enc t.1]).length * 16 ≤ _; omega, by show (rs ++ [strC.enc t.1]).length ≤ _; omega, by decide⟩, ⟨hc.append (closedStr [t.1]), trivial⟩, rfl⟩)
   (R5_ok.rndX ((lx x r58xa) s x.2.2.2.1.length) ⟨by rw [e_ts]; exact lt_self _, trivial, rfl⟩)
   (fun rs hc => R5_ok.rndX ((lx x r58xb) s x.2.2.2.1.length rs rs.length) ⟨by rw [e_ts]; exact lt_self _, ⟨hc, trivial⟩, rfl⟩)
  exact R5_ok.tr ((lx x t58) s ((reaM x s).map strC.enc)) ⟨⟨trivial, trivial, h.says⟩, rfl⟩
noncomputable def R6 : Specs := (R5.set 58 rea58G)
theorem R6_ok : Ok R6 := (R5_ok.set h58)
end Go.Vm.S3

namespace Go.Vm.S3
open Go.Proofs Go.RowKit
set_option maxRecDepth 100000
variable (ps fs cs ts : List AV) (d u : Int)
theorem t132a (s : ByteArray) (e0 : Int) : ev R6 132 [lbE ps fs cs ts d u, sA s] [.sp [lbE ps fs cs ts d u] (iA e0), .as 11 true] =
  (ak R6 49 [lbE ps fs cs ts d u] (iA e0) (.need ((e0 != 0) = true) (.done (some (.tup [iA 0, iA e0]))))) := by kernel_rfl
theorem t132b (s : ByteArray) (e0 k e : Int) : ev R6 132 [lbE ps fs cs ts d u, sA s] [.sp [lbE ps fs cs ts d u] (iA e0), .as 11 false, .sp [.rsl 3 ts false, .fn (.func 196) [] [.rptr [sA s]]] (iA k), .sp [bA (decide (k < 0)), iA 10] (iA e)] =
  (ak R6 49 [lbE ps fs cs ts d u] (iA e0) (.need ((e0 != 0) = false) (ak R6 143 [.rsl 3 ts false, .fn (Fn.func 196) [] [.rptr [sA s]]] (iA k) (ak R6 109 [bA (decide (k < 0)), iA 10] (iA e) (.done (some (.tup [iA k, iA e]))))))) := by kernel_rfl
def ftM (x : Lb) (s : ByteArray) : Int := bif labM x != 0 then labM x else whenM (decide (findT x.2.2.2.1 s < 0)) 10
def ftI (x : Lb) (s : ByteArray) : Int := bif labM x != 0 then 0 else findT x.2.2.2.1 s
def ftG : List AV → Option AV := sp2 labC strC fun x s => bif okLb x then some (.tup [iA (ftI x s), iA (ftM x s)]) else none
theorem h132 : Holds 132 ftG := holds2 fun x s r hr => by
 cases hb : okLb x with
 | false => simp [hb] at hr
 | true =>
  simp only [hb, cond_true, Option.some.injEq] at hr; subst hr
  have K := okLb_at hb
  unfold ftI ftM
  cases he : labM x != 0 with
  | true => exact R6_ok.tr ((lx x t132a) s _) ⟨⟨rfl, spLab hb⟩, he, rfl⟩
  | false => exact R6_ok.tr ((lx x t132b) s (labM x) _ _) ⟨⟨rfl, spLab hb⟩, he, ⟨rfl, sp196 s (blt_lim K.ts)⟩, ⟨rfl, spWhen _ 10⟩, rfl⟩
def tIx (x : Lb) (s : ByteArray) : Nat := (findIx s (nmt x.2.2.2.1) 0).getD 0
theorem findT_ge {x : Lb} {s : ByteArray} (h : ¬ findT x.2.2.2.1 s < 0) : tIx x s < x.2.2.2.1.length ∧ findT x.2.2.2.1 s = Int.ofNat (tIx x s) ∧ findIx s (nmt x.2.2.2.1) 0 = some (tIx x s) := by
 unfold findT at h ⊢
 unfold tIx
 cases hf : findIx s (nmt x.2.2.2.1) 0 with
 | none => rw [hf] at h; exact absurd (by decide) h
 | some k =>
  have := (findIx_bound hf).2
  rw [Nat.zero_add, List.length_map] at this
  exact ⟨this, rfl, rfl⟩
theorem ftM_zero {x : Lb} {s : ByteArray} (h : ftM x s = 0) : labM x = 0 ∧ ¬ findT x.2.2.2.1 s < 0 := by
 unfold ftM at h
 cases he : labM x != 0 with
 | true => rw [he, cond_true] at h; rw [h] at he; cases he
 | false =>
  rw [he, cond_false] at h
  refine ⟨by simpa using he, fun hn => ?_⟩
  rw [decide_eq_true hn] at h; cases h
theorem spFt {x : Lb} (s : ByteArray) (h : okLb x = true) : ftG [lbA x, sA s] = some (.tup [iA (ftI x s), iA (ftM x s)]) := by
 have := sp2_at (A := labC) (B := strC) (F := fun x s => bif okLb x then some (.tup [iA (ftI x s), iA (ftM x s)]) else none) x s
 rw [h] at this; exact this
noncomputable def R7 : Specs := (R6.set 132 ftG)
theorem R7_ok : Ok R7 := (R6_ok.set h132)
end Go.Vm.S3
