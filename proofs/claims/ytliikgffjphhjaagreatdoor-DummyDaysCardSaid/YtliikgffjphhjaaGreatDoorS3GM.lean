/- Tests: the calibration that counts, of the reference. -/
import Derived.Test.YtliikgffjphhjaaGreatDoorS3GL
namespace Go.Vm.S3
open Go.Proofs Go.RowKit
set_option maxRecDepth 100000
variable (ps fs cs ts : List AV) (d u : Int)
abbrev cR1_25 (ps fs cs ts : List AV) (d u : Int) (s w : ByteArray) (day o : Int) (i : Nat) (a b c : ByteArray) (n : Int) (us : List AV) (h9 : List Hn) (a9 : List An) (x9 : Ex) (v9 : List AV) (e9 : List (Bool × Blk)) : Prop := Lr Q21 138 49 0 [1, 2, 3, 7, 8, 9] [3] [1, 2, 3, 7, 8, 9] [3] [] [] [sA s, iA day, .ptr 3 0 0, sA w, iA o, iA (Int.ofNat i)] [lbX ps fs cs ts d u] ([.as 19 true, .chk [.agg [sA a, sA b, sA c, iA n, .rsl 1 us false]]] ++ h9) ([.t i cs.length, .g cs i] ++ a9) x9 v9 e9
theorem r138a (s w : ByteArray) (day o : Int) (i : Nat) (a b c : ByteArray) (n : Int) (us : List AV) : cR1_25 ps fs cs ts d u s w day o i a b c n us [.as 29 false] [.b (!(w.toList == (ByteArray.mk #[]).toList))] .nrm [sA s, iA day, .ptr 3 0 0, sA w, iA o, iA (IntKind.i64.wrap (Int.ofNat i + 1))] [lbX ps fs cs ts d u] := kn (by kernel_rfl)
theorem r138b (s w : ByteArray) (day o : Int) (i : Nat) (a b c : ByteArray) (n : Int) (us : List AV) : cR1_25 ps fs cs ts d u s w day o i a b c n us [.as 29 true, .as 35 false] [.b (!(w.toList == (ByteArray.mk #[]).toList)), .b (b.toList == s.toList)] .nrm [sA s, iA day, .ptr 3 0 0, sA w, iA o, iA (IntKind.i64.wrap (Int.ofNat i + 1))] [lbX ps fs cs ts d u] := kn (by kernel_rfl)
theorem r138c (s w : ByteArray) (day o : Int) (i : Nat) (a b c : ByteArray) (n : Int) (us : List AV) : cR1_25 ps fs cs ts d u s w day o i a b c n us [.as 29 true, .as 35 true, .as 41 false] [.b (!(w.toList == (ByteArray.mk #[]).toList)), .b (b.toList == s.toList), .b (c.toList == w.toList)] .nrm [sA s, iA day, .ptr 3 0 0, sA w, iA o, iA (IntKind.i64.wrap (Int.ofNat i + 1))] [lbX ps fs cs ts d u] := kn (by kernel_rfl)
theorem r138d (s w : ByteArray) (day o : Int) (i : Nat) (a b c : ByteArray) (n : Int) (us : List AV) : cR1_25 ps fs cs ts d u s w day o i a b c n us [.as 29 true, .as 35 true, .as 41 true, .as 46 false] [.b (!(w.toList == (ByteArray.mk #[]).toList)), .b (b.toList == s.toList), .b (c.toList == w.toList), .b (decide (n ≤ day))] .nrm [sA s, iA day, .ptr 3 0 0, sA w, iA o, iA (IntKind.i64.wrap (Int.ofNat i + 1))] [lbX ps fs cs ts d u] := kn (by kernel_rfl)
theorem r138y (s w : ByteArray) (day o : Int) (i : Nat) (a b c : ByteArray) (n : Int) (us : List AV) : cR1_25 ps fs cs ts d u s w day o i a b c n us [.as 29 true, .as 35 true, .as 41 true, .as 46 true] [.b (!(w.toList == (ByteArray.mk #[]).toList)), .b (b.toList == s.toList), .b (c.toList == w.toList), .b (decide (n ≤ day))] .nrm [sA s, iA day, .ptr 3 0 0, sA w, iA (Int.ofNat i), iA (IntKind.i64.wrap (Int.ofNat i + 1))] [lbX ps fs cs ts d u] := kn (by kernel_rfl)
theorem r138x (s w : ByteArray) (day o : Int) (i : Nat) : Lr Q21 138 49 0 [1, 2, 3, 7, 8, 9] [3] [1, 2, 3, 7, 8, 9] [3] [8] [] [sA s, iA day, .ptr 3 0 0, sA w, iA o, iA (Int.ofNat i)] [lbX ps fs cs ts d u] [.as 19 false] [.t i cs.length] (.exit 0) [iA o] [] := kn (by kernel_rfl)
theorem t138 (s w : ByteArray) (day o : Int) : L Q21 138 [lbE ps fs cs ts d u, sA s, iA day] [.sp [lbE ps fs cs ts d u, sA s, iA day] (sA w), .loop 0 [1, 2, 3, 7, 8, 9] [3] [8] [] (.exit 0) [iA o] []] [.f 45, .l 49 138 0 49 [sA s, iA day, .ptr 3 0 0, sA w, iA (-1), iA 0] [lbX ps fs cs ts d u]] (iA o) := kr (by kernel_rfl)
def calS (w s : ByteArray) (day : Int) (c : Cb) : Bool := bif nilB w then false else bif seq c.2.1 s then bif seq c.2.2.1 w then decide (c.2.2.2.1 ≤ day) else false else false
def calI (w s : ByteArray) (day : Int) (l : List Cb) : Int := goL (fun i (c : Cb) (o : Int) => (.inl (bif calS w s day c then Int.ofNat i else o) : Int ⊕ Int)) id 0 l (-1)
def cntM (x : Lb) (s : ByteArray) (day : Int) : Int := calI (specM x.2.1 s day) s day x.2.2.1
def cnt138G : List AV → Option AV := sp3 labC strC intC fun x s day => bif okLb x then some (iA (cntM x s day)) else none
theorem h138 : Holds 138 cnt138G := holds3 fun x s day r hr => by
 cases hb : okLb x with
 | false => simp [hb] at hr
 | true =>
  simp only [hb, cond_true, Option.some.injEq] at hr; subst hr
  have K := okLb_at hb
  have hl := limTwo K.cs
  have h := LoopRun.list (C := CS Q21) (p := 0) (nt := 49) (rd := false) (c := lO (CS Q21) 138 0) (step := fun i (c : Cb) (o : Int) => (.inl (bif calS (specM x.2.1 s day) s day c then Int.ofNat i else o) : Int ⊕ Int)) (fin := id)
   (enc := fun i o => mkSt [1, 2, 3, 7, 8, 9] [3] 49 [sA s, iA day, .ptr 3 0 0, sA (specM x.2.1 s day), iA o, iA (Int.ofNat i)] [lbY x])
   (ex := fun _ => .exit 0) (out := fun o => mkSt [8] [] 49 [iA o] []) (l := x.2.2.1) (fun _ _ => True)
   (fun i c o hc _ => by
    have hi := lt_len hc
    have hlt : decide (Int.ofNat i < Int.ofNat (x.2.2.1.map cbC.enc).length) = true := by rw [e_cb]; exact lt_of hi
    have hg := get_map cbC.enc hc
    have hw := wrap_ix hi hl
    refine ⟨?_, trivial⟩
    unfold calS
    cases h1 : nilB (specM x.2.1 s day) with
    | true =>
     have hr := (lx x r138a) s (specM x.2.1 s day) day o i c.1 c.2.1 c.2.2.1 c.2.2.2.1 (c.2.2.2.2.map intC.enc)
     rw [hw] at hr
     exact Q21_ok.rndN hr ⟨hlt, hg, by show (!nilB _) = false; rw [h1]; rfl, trivial, rfl⟩
    | false =>
     have hn : (!nilB (specM x.2.1 s day)) = true := by rw [h1]; rfl
     cases h2 : seq c.2.1 s with
     | false =>
      have hr := (lx x r138b) s (specM x.2.1 s day) day o i c.1 c.2.1 c.2.2.1 c.2.2.2.1 (c.2.2.2.2.map intC.enc)
      rw [hw] at hr
      exact Q21_ok.rndN hr ⟨hlt, hg, hn, h2, trivial, rfl⟩
     | true =>
      cases h3 : seq c.2.2.1 (specM x.2.1 s day) with
      | false =>
       have hr := (lx x r138c) s (specM x.2.1 s day) day o i c.1 c.2.1 c.2.2.1 c.2.2.2.1 (c.2.2.2.2.map intC.enc)
       rw [hw] at hr
       exact Q21_ok.rndN hr ⟨hlt, hg, hn, h2, h3, trivial, rfl⟩
      | true =>
       cases h4 : decide (c.2.2.2.1 ≤ day) with
       | false =>
        have hr := (lx x r138d) s (specM x.2.1 s day) day o i c.1 c.2.1 c.2.2.1 c.2.2.2.1 (c.2.2.2.2.map intC.enc)
        rw [hw] at hr
        exact Q21_ok.rndN hr ⟨hlt, hg, hn, h2, h3, h4, trivial, rfl⟩
       | true =>
        have hr := (lx x r138y) s (specM x.2.1 s day) day o i c.1 c.2.1 c.2.2.1 c.2.2.2.1 (c.2.2.2.2.map intC.enc)
        rw [hw] at hr
        exact Q21_ok.rndN hr ⟨hlt, hg, hn, h2, h3, h4, trivial, rfl⟩)
   (fun o _ => ⟨Q21_ok.rndX ((lx x r138x) s (specM x.2.1 s day) day o x.2.2.1.length) ⟨by rw [e_cb]; exact lt_self _, trivial, rfl⟩, by simp⟩)
   x.2.2.1 [] (-1) rfl trivial
  exact Q21_ok.tr ((lx x t138) s (specM x.2.1 s day) day (cntM x s day)) ⟨⟨rfl, spSpec s day hb⟩, ⟨trivial, trivial, h.says⟩, rfl⟩
noncomputable def R1 : Specs := (Q21.set 138 cnt138G)
theorem R1_ok : Ok R1 := (Q21_ok.set h138)
end Go.Vm.S3

namespace Go.Vm.S3
open Go.Proofs Go.RowKit
set_option maxRecDepth 100000
variable (ps fs cs ts : List AV) (d u : Int)
abbrev cR2_30 (ps fs cs ts : List AV) (d u : Int) (es : List AV) (w : ByteArray) (fr m : Int) (i j : Nat) (q : Bool) (a : ByteArray) (n : Int) (ws : List AV) (h9 : List Hn) (a9 : List An) (x9 : Ex) (v9 : List AV) (e9 : List (Bool × Blk)) : Prop := Lr R1 202 59 2 [1, 2, 3, 4, 9, 10, 11, 12] [4] [1, 2, 3, 4, 9, 10, 11, 12] [4] [1, 2, 3, 4, 9, 10, 11] [4] [.rsl 3 es false, sA w, iA fr, .ptr 4 0 0, iA m, iA (Int.ofNat i), bA q, iA (Int.ofNat j)] [lbX ps fs cs ts d u] ([.chk [.agg [sA a, iA n, .rsl 1 ws false]]] ++ h9) ([.g es i] ++ a9) x9 v9 e9
theorem r202iy (es : List AV) (w : ByteArray) (fr m : Int) (i j : Nat) (q : Bool) (a : ByteArray) (n : Int) (ws : List AV) (y z : ByteArray) : cR2_30 ps fs cs ts d u es w fr m i j q a n ws [.as 26 true, .chk [.agg [sA a, iA n, .rsl 1 ws false]], .chk [sA y], .chk [.agg [sA a, iA n, .rsl 1 ws false]], .sp [lbE ps fs cs ts d u, sA y, iA n] (sA z), .as 45 true] [.t j ws.length, .g es i, .g ws j, .g es i, .f 45, .b (z.toList == w.toList)] .nrm [.rsl 3 es false, sA w, iA fr, .ptr 4 0 0, iA m, iA (Int.ofNat i), bA true, iA (IntKind.i64.wrap (Int.ofNat j + 1))] [lbX ps fs cs ts d u] := kn (by kernel_rfl)
theorem r202in (es : List AV) (w : ByteArray) (fr m : Int) (i j : Nat) (q : Bool) (a : ByteArray) (n : Int) (ws : List AV) (y z : ByteArray) : cR2_30 ps fs cs ts d u es w fr m i j q a n ws [.as 26 true, .chk [.agg [sA a, iA n, .rsl 1 ws false]], .chk [sA y], .chk [.agg [sA a, iA n, .rsl 1 ws false]], .sp [lbE ps fs cs ts d u, sA y, iA n] (sA z), .as 45 false] [.t j ws.length, .g es i, .g ws j, .g es i, .f 45, .b (z.toList == w.toList)] .nrm [.rsl 3 es false, sA w, iA fr, .ptr 4 0 0, iA m, iA (Int.ofNat i), bA q, iA (IntKind.i64.wrap (Int.ofNat j + 1))] [lbX ps fs cs ts d u] := kn (by kernel_rfl)
theorem r202ix (es : List AV) (w : ByteArray) (fr m : Int) (i j : Nat) (q : Bool) (a : ByteArray) (n : Int) (ws : List AV) : cR2_30 ps fs cs ts d u es w fr m i j q a n ws [.as 26 false] [.t j ws.length] (.exit 2) [.rsl 3 es false, sA w, iA fr, .ptr 4 0 0, iA m, iA (Int.ofNat i), bA q] [lbX ps fs cs ts d u] := kn (by kernel_rfl)
abbrev cR2_29 (ps fs cs ts : List AV) (d u : Int) (es : List AV) (w : ByteArray) (fr m : Int) (i : Nat) (q : Bool) (h9 : List Hn) (a9 : List An) (x9 : Ex) (v9 : List AV) (e9 : List (Bool × Blk)) : Prop := Lr R1 202 59 0 [1, 2, 3, 4, 9, 10] [4] [1, 2, 3, 4, 9, 10] [4] [] [4] [.rsl 3 es false, sA w, iA fr, .ptr 4 0 0, iA m, iA (Int.ofNat i)] [lbX ps fs cs ts d u] ([.as 16 true, .loop 0 [1, 2, 3, 4, 9, 10, 11, 12] [4] [1, 2, 3, 4, 9, 10, 11] [4] (.exit 2) [.rsl 3 es false, sA w, iA fr, .ptr 4 0 0, iA m, iA (Int.ofNat i), bA q] [lbX ps fs cs ts d u]] ++ h9) ([.t i es.length, .l 59 202 2 59 [.rsl 3 es false, sA w, iA fr, .ptr 4 0 0, iA m, iA (Int.ofNat i), bA false, iA 0] [lbX ps fs cs ts d u]] ++ a9) x9 v9 e9
theorem r202f (es : List AV) (w : ByteArray) (fr m : Int) (i : Nat) (q : Bool) (a : ByteArray) (n : Int) (ws : List AV) : cR2_29 ps fs cs ts d u es w fr m i q [.as 47 false] [.b q] .nrm [.rsl 3 es false, sA w, iA fr, .ptr 4 0 0, iA m, iA (IntKind.i64.wrap (Int.ofNat i + 1))] [lbX ps fs cs ts d u] := kn (by kernel_rfl)
theorem r202n (es : List AV) (w : ByteArray) (fr m : Int) (i : Nat) (q : Bool) (a : ByteArray) (n : Int) (ws : List AV) : cR2_29 ps fs cs ts d u es w fr m i q [.as 47 true, .chk [.agg [sA a, iA n, .rsl 1 ws false]], .as 55 false] [.b q, .g es i, .b (decide (n ≥ fr))] .nrm [.rsl 3 es false, sA w, iA fr, .ptr 4 0 0, iA m, iA (IntKind.i64.wrap (Int.ofNat i + 1))] [lbX ps fs cs ts d u] := kn (by kernel_rfl)
theorem r202y (es : List AV) (w : ByteArray) (fr m : Int) (i : Nat) (q : Bool) (a : ByteArray) (n : Int) (ws : List AV) : cR2_29 ps fs cs ts d u es w fr m i q [.as 47 true, .chk [.agg [sA a, iA n, .rsl 1 ws false]], .as 55 true, .ar (iA (m + 1))] [.b q, .g es i, .b (decide (n ≥ fr)), .k ((abin (CS R1) BinOp.add 3 (Operand.tmp 56) (Operand.const (Value.int IntKind.i64 1)) (iA m) (iA 1)) = (some (iA (m + 1))))] .nrm [.rsl 3 es false, sA w, iA fr, .ptr 4 0 0, iA (m + 1), iA (IntKind.i64.wrap (Int.ofNat i + 1))] [lbX ps fs cs ts d u] := kn (by kernel_rfl)
theorem r202x (es : List AV) (w : ByteArray) (fr m : Int) (i : Nat) : Lr R1 202 59 0 [1, 2, 3, 4, 9, 10] [4] [1, 2, 3, 4, 9, 10] [4] [9] [] [.rsl 3 es false, sA w, iA fr, .ptr 4 0 0, iA m, iA (Int.ofNat i)] [lbX ps fs cs ts d u] [.as 16 false] [.t i es.length] (.exit 0) [iA m] [] := kn (by kernel_rfl)
theorem t202 (es : List AV) (w : ByteArray) (fr m : Int) : L R1 202 [lbE ps fs cs ts d u, .rsl 3 es false, sA w, iA fr] [.loop 0 [1, 2, 3, 4, 9, 10] [4] [9] [] (.exit 0) [iA m] []] [.l 59 202 0 59 [.rsl 3 es false, sA w, iA fr, .ptr 4 0 0, iA 0, iA 0] [lbX ps fs cs ts d u]] (iA m) := kr (by kernel_rfl)
def usedT (fs : List Ft) (w : ByteArray) (t : Ts) : Bool := t.2.2.any fun p => seq (specM fs p t.2.1) w
def cntU (fs : List Ft) (w : ByteArray) (fr : Int) (l : List Ts) : Int := l.foldl (fun m t => bif usedT fs w t && decide (t.2.1 ≥ fr) then m + 1 else m) 0
theorem addM1 (S : Specs) (x y : Operand) {m : Int} {n : Nat} (h0 : 0 ≤ m) (h : m < Int.ofNat n) (hn : n ≤ lim) : abin (CS S) BinOp.add 3 x y (AV.v (.int .i64 m)) (AV.v (.int .i64 1)) = some (AV.v (.int .i64 (m + 1))) := by
 show some (AV.v (.int .i64 (IntKind.i64.wrap (m + 1)))) = _
 unfold lim at hn
 simp only [Int.ofNat_eq_natCast] at h
 rw [wrap_in (by omega) (by omega)]
def uses202G : List AV → Option AV := sp4 labC tssC strC intC fun x l w fr => bif okLb x && (Nat.ble l.length lim && l.all okT) then some (iA (cntU x.2.1 w fr l)) else none
theorem inner202 (x : Lb) (hok : okLb x = true) (l : List Ts) (w : ByteArray) (fr m : Int) (i : Nat) (t : Ts) (ht : l[i]? = some t) (hokt : okT t = true) :
  LoopRun (CS R1) 0 59 false (lO (CS R1) 202 2) (mkSt [1, 2, 3, 4, 9, 10, 11, 12] [4] 59 [.rsl 3 (l.map tsC.enc) false, sA w, iA fr, .ptr 4 0 0, iA m, iA (Int.ofNat i), bA false, iA 0] [lbY x]) (.exit 2)
   (mkSt [1, 2, 3, 4, 9, 10, 11] [4] 59 [.rsl 3 (l.map tsC.enc) false, sA w, iA fr, .ptr 4 0 0, iA m, iA (Int.ofNat i), bA (usedT x.2.1 w t)] [lbY x]) := by
 have hl := limTwo (Nat.le_of_ble_eq_true hokt)
 have hgt := get_map tsC.enc ht
 have h := LoopRun.list (C := CS R1) (p := 0) (nt := 59) (rd := false) (c := lO (CS R1) 202 2) (step := fun _ (y : ByteArray) (q : Bool) => (.inl (bif seq (specM x.2.1 y t.2.1) w then true else q) : Bool ⊕ Bool)) (fin := id)
  (enc := fun j q => mkSt [1, 2, 3, 4, 9, 10, 11, 12] [4] 59 [.rsl 3 (l.map tsC.enc) false, sA w, iA fr, .ptr 4 0 0, iA m, iA (Int.ofNat i), bA q, iA (Int.ofNat j)] [lbY x])
  (ex := fun _ => .exit 2) (out := fun q => mkSt [1, 2, 3, 4, 9, 10, 11] [4] 59 [.rsl 3 (l.map tsC.enc) false, sA w, iA fr, .ptr 4 0 0, iA m, iA (Int.ofNat i), bA q] [lbY x]) (l := t.2.2) (fun _ _ => True)
  (fun j y q hy _ => by
   have hj := lt_len hy
   have hlt : decide (Int.ofNat j < Int.ofNat (t.2.2.map strC.enc).length) = true := by rw [e_st]; exact lt_of hj
   have hg := get_map strC.enc hy
   have hw := wrap_ix hj hl
   refine ⟨?_, trivial⟩
   cases h1 : seq (specM x.2.1 y t.2.1) w with
   | true =>
    have hr := (lx x r202iy) (l.map tsC.enc) w fr m i j q t.1 t.2.1 (t.2.2.map strC.enc) y (specM x.2.1 y t.2.1)
    rw [hw] at hr
    exact R1_ok.rndN hr ⟨hgt, hlt, hgt, hg, hgt, ⟨rfl, spSpec y t.2.1 hok⟩, h1, trivial, rfl⟩
   | false =>
    have hr := (lx x r202in) (l.map tsC.enc) w fr m i j q t.1 t.2.1 (t.2.2.map strC.enc) y (specM x.2.1 y t.2.1)
    rw [hw] at hr
    exact R1_ok.rndN hr ⟨hgt, hlt, hgt, hg, hgt, ⟨rfl, spSpec y t.2.1 hok⟩, h1, trivial, rfl⟩)
  (fun q _ => ⟨R1_ok.rndX ((lx x r202ix) (l.map tsC.enc) w fr m i t.2.2.length q t.1 t.2.1 (t.2.2.map strC.enc)) ⟨hgt, by rw [e_st]; exact lt_self _, trivial, rfl⟩, by simp⟩)
  t.2.2 [] false rfl trivial
 have hany : ∀ (k : List ByteArray) (i : Nat) (q : Bool), goL (fun _ (y : ByteArray) (q : Bool) => (.inl (bif seq (specM x.2.1 y t.2.1) w then true else q) : Bool ⊕ Bool)) id i k q = (q || k.any fun p => seq (specM x.2.1 p t.2.1) w) := by
  intro k
  induction k with
  | nil => intro i q; simp [goL]
  | cons y k ih =>
   intro i q
   unfold goL
   simp only [ih, List.any_cons]
   cases seq (specM x.2.1 y t.2.1) w <;> cases q <;> simp
 rw [show ([] : List ByteArray).length = 0 from rfl, hany, Bool.false_or] at h
 exact h
theorem h202 : Holds 202 uses202G := holds4 fun x l w fr r hr => by
 cases hb : okLb x && (Nat.ble l.length lim && l.all okT) with
 | false => simp [hb] at hr
 | true =>
  simp only [hb, cond_true, Option.some.injEq] at hr; subst hr
  simp only [Bool.and_eq_true, List.all_eq_true] at hb
  obtain ⟨hok, hlim0, hall⟩ := hb
  have hlim := Nat.le_of_ble_eq_true hlim0
  have hl := limTwo hlim
  have h := LoopRun.list (C := CS R1) (p := 0) (nt := 59) (rd := false) (c := lO (CS R1) 202 0) (step := fun _ (t : Ts) (m : Int) => (.inl (bif usedT x.2.1 w t && decide (t.2.1 ≥ fr) then m + 1 else m) : Int ⊕ Int)) (fin := id)
   (enc := fun i m => mkSt [1, 2, 3, 4, 9, 10] [4] 59 [.rsl 3 (l.map tsC.enc) false, sA w, iA fr, .ptr 4 0 0, iA m, iA (Int.ofNat i)] [lbY x])
   (ex := fun _ => .exit 0) (out := fun m => mkSt [9] [] 59 [iA m] []) (l := l) (fun i m => 0 ≤ m ∧ m ≤ Int.ofNat i)
   (fun i t m ht hm => by
    have hi := lt_len ht
    have hlt : decide (Int.ofNat i < Int.ofNat (l.map tsC.enc).length) = true := by rw [e_ts]; exact lt_of hi
    have hg := get_map tsC.enc ht
    have hw := wrap_ix hi hl
    have hin := inner202 x hok l w fr m i t ht (hall t (List.mem_of_getElem? ht))
    obtain ⟨hm0, hm1⟩ := hm
    simp only [Int.ofNat_eq_natCast] at hm1
    cases hu : usedT x.2.1 w t with
    | false =>
     rw [hu] at hin
     have hr := (lx x r202f) (l.map tsC.enc) w fr m i false t.1 t.2.1 (t.2.2.map strC.enc)
     rw [hw] at hr
     exact ⟨R1_ok.rndN hr ⟨hlt, ⟨trivial, trivial, hin.says⟩, rfl, trivial, rfl⟩, hm0, by simp only [Int.ofNat_eq_natCast, Bool.false_and, cond_false]; omega⟩
    | true =>
     rw [hu] at hin
     cases hd : decide (t.2.1 ≥ fr) with
     | false =>
      have hr := (lx x r202n) (l.map tsC.enc) w fr m i true t.1 t.2.1 (t.2.2.map strC.enc)
      rw [hw] at hr
      exact ⟨R1_ok.rndN hr ⟨hlt, ⟨trivial, trivial, hin.says⟩, rfl, hg, hd, trivial, rfl⟩, hm0, by simp only [Int.ofNat_eq_natCast, Bool.and_false, cond_false]; omega⟩
     | true =>
      have hr := (lx x r202y) (l.map tsC.enc) w fr m i true t.1 t.2.1 (t.2.2.map strC.enc)
      rw [hw] at hr
      exact ⟨R1_ok.rndN hr ⟨hlt, ⟨trivial, trivial, hin.says⟩, rfl, hg, hd, addM1 R1 _ _ (n := l.length) hm0 (by simp only [Int.ofNat_eq_natCast]; omega) hlim, trivial, rfl⟩, by simp only [Bool.and_self, cond_true]; omega, by simp only [Int.ofNat_eq_natCast, Bool.and_self, cond_true]; omega⟩)
   (fun m _ => ⟨R1_ok.rndX ((lx x r202x) (l.map tsC.enc) w fr m l.length) ⟨by rw [e_ts]; exact lt_self _, trivial, rfl⟩, by simp⟩)
   l [] 0 rfl ⟨by omega, by simp⟩
  rw [show ([] : List Ts).length = 0 from rfl, goL_all (fun (m : Int) (t : Ts) => bif usedT x.2.1 w t && decide (t.2.1 ≥ fr) then m + 1 else m) id] at h
  exact R1_ok.tr ((lx x t202) (l.map tsC.enc) w fr (cntU x.2.1 w fr l)) ⟨⟨trivial, trivial, h.says⟩, rfl⟩
noncomputable def R2 : Specs := (R1.set 202 uses202G)
theorem R2_ok : Ok R2 := (R1_ok.set h202)
end Go.Vm.S3

namespace Go.Vm.S3
open Go.Proofs Go.RowKit
set_option maxRecDepth 100000
variable (ps fs cs ts : List AV) (d u : Int)
theorem t139a (s w : ByteArray) (day : Int) (es : List AV) : L R2 139 [lbE ps fs cs ts d u, sA s, iA day, .rsl 3 es false] [.sp [lbE ps fs cs ts d u, sA s, iA day] (sA w), .as 17 true] [.f 45, .b (w.toList == (ByteArray.mk #[]).toList)] (sA (ByteArray.mk #[109, 105, 115, 115, 105, 110, 103])) := kr (by kernel_rfl)
theorem t139b (s w : ByteArray) (day : Int) (es : List AV) (k : Int) : L R2 139 [lbE ps fs cs ts d u, sA s, iA day, .rsl 3 es false] [.sp [lbE ps fs cs ts d u, sA s, iA day] (sA w), .as 17 false, .sp [lbE ps fs cs ts d u, sA s, iA day] (iA k), .as 23 true] [.f 45, .b (w.toList == (ByteArray.mk #[]).toList), .f 138, .b (decide (k < 0))] (sA (ByteArray.mk #[117, 110, 99, 97, 108, 105, 98, 114, 97, 116, 101, 100])) := kr (by kernel_rfl)
abbrev cR3_32 (ps fs cs ts : List AV) (d u : Int) (s w : ByteArray) (day : Int) (es : List AV) (k : Nat) (a b c : ByteArray) (n : Int) (us : List AV) (g : Bool) (h9 : List Hn) (a9 : List An) (r9 : AV) : Prop := L R2 139 [lbE ps fs cs ts d u, sA s, iA day, .rsl 3 es false] ([.sp [lbE ps fs cs ts d u, sA s, iA day] (sA w), .as 17 false, .sp [lbE ps fs cs ts d u, sA s, iA day] (iA (Int.ofNat k)), .as 23 false, .chk [.agg [sA a, sA b, sA c, iA n, .rsl 1 us false]], .sp [lbE ps fs cs ts d u, .agg [sA a, sA b, sA c, iA n, .rsl 1 us false]] (bA g)] ++ h9) ([.f 45, .b (w.toList == (ByteArray.mk #[]).toList), .f 138, .b (decide (Int.ofNat k < 0)), .g cs k, .f 47] ++ a9) r9
theorem t139c (s w : ByteArray) (day : Int) (es : List AV) (k : Nat) (a b c : ByteArray) (n : Int) (us : List AV) (g : Bool) : cR3_32 ps fs cs ts d u s w day es k a b c n us g [.as 32 true] [.b (!g)] (sA (ByteArray.mk #[102, 97, 105, 108, 101, 100])) := kr (by kernel_rfl)
theorem t139d (s w : ByteArray) (day : Int) (es : List AV) (k : Nat) (a b c : ByteArray) (n : Int) (us : List AV) (g : Bool) : cR3_32 ps fs cs ts d u s w day es k a b c n us g [.as 32 false, .as 40 true] [.b (!g), .b (decide (IntKind.i64.wrap (day - n) > d))] (sA (ByteArray.mk #[111, 108, 100])) := kr (by kernel_rfl)
theorem t139e (s w : ByteArray) (day : Int) (es : List AV) (k : Nat) (a b c : ByteArray) (n : Int) (us : List AV) (g : Bool) (m : Int) : cR3_32 ps fs cs ts d u s w day es k a b c n us g [.as 32 false, .as 40 false, .sp [lbE ps fs cs ts d u, .rsl 3 es false, sA w, iA n] (iA m), .as 50 true] [.b (!g), .b (decide (IntKind.i64.wrap (day - n) > d)), .f 202, .b (decide (m ≥ u))] (sA (ByteArray.mk #[119, 111, 114, 110])) := kr (by kernel_rfl)
theorem t139f (s w : ByteArray) (day : Int) (es : List AV) (k : Nat) (a b c : ByteArray) (n : Int) (us : List AV) (g : Bool) (m : Int) : cR3_32 ps fs cs ts d u s w day es k a b c n us g [.as 32 false, .as 40 false, .sp [lbE ps fs cs ts d u, .rsl 3 es false, sA w, iA n] (iA m), .as 50 false] [.b (!g), .b (decide (IntKind.i64.wrap (day - n) > d)), .f 202, .b (decide (m ≥ u))] (sA (ByteArray.mk #[])) := kr (by kernel_rfl)
theorem cal_at {w s : ByteArray} {day : Int} : ∀ (l : List Cb) (i : Nat) (o : Int), (goL (fun i (c : Cb) (o : Int) => (.inl (bif calS w s day c then Int.ofNat i else o) : Int ⊕ Int)) id i l o = o) ∨
  ∃ j c, l[j]? = some c ∧ calS w s day c = true ∧ goL (fun i (c : Cb) (o : Int) => (.inl (bif calS w s day c then Int.ofNat i else o) : Int ⊕ Int)) id i l o = Int.ofNat (i + j)
 | [], i, o => .inl rfl
 | c :: l, i, o => by
  unfold goL
  simp only
  rcases cal_at l (i + 1) (bif calS w s day c then Int.ofNat i else o) with h | ⟨j, c', h1, h2, h3⟩
  ·cases hc : calS w s day c with
   | false => rw [hc, cond_false] at h; exact .inl h
   | true => rw [hc, cond_true] at h; exact .inr ⟨0, c, rfl, hc, h⟩
  ·exact .inr ⟨j + 1, c', by rw [List.getElem?_cons_succ]; exact h1, h2, by rw [h3]; congr 1; omega⟩
theorem cnt_at (x : Lb) (s : ByteArray) (day : Int) : cntM x s day = -1 ∨ ∃ k, k < x.2.2.1.length ∧ cntM x s day = Int.ofNat k ∧ calS (specM x.2.1 s day) s day (cbAt x k) = true := by
 unfold cntM calI
 rcases cal_at (w := specM x.2.1 s day) (s := s) (day := day) x.2.2.1 0 (-1) with h | ⟨j, c, h1, h2, h3⟩
 ·exact .inl h
 ·refine .inr ⟨j, lt_len h1, by rw [h3, Nat.zero_add], ?_⟩
  have := cbAt_get (lt_len h1)
  rw [h1, Option.some.injEq] at this
  rw [← this]; exact h2
def sMissing : ByteArray := ⟨#[109, 105, 115, 115, 105, 110, 103]⟩
def sUncal : ByteArray := ⟨#[117, 110, 99, 97, 108, 105, 98, 114, 97, 116, 101, 100]⟩
def sFailed : ByteArray := ⟨#[102, 97, 105, 108, 101, 100]⟩
def sOld : ByteArray := ⟨#[111, 108, 100]⟩
def sWorn : ByteArray := ⟨#[119, 111, 114, 110]⟩
def wrongM (x : Lb) (w : ByteArray) (day : Int) (c : Cb) (l : List Ts) : ByteArray :=
 bif !goodM x.1 c then sFailed else bif decide (IntKind.i64.wrap (day - c.2.2.2.1) > x.2.2.2.2.1) then sOld else bif decide (cntU x.2.1 w c.2.2.2.1 l ≥ x.2.2.2.2.2) then sWorn else ⟨#[]⟩
def stM (x : Lb) (s : ByteArray) (day : Int) (l : List Ts) : ByteArray :=
 bif nilB (specM x.2.1 s day) then sMissing else bif decide (cntM x s day < 0) then sUncal else wrongM x (specM x.2.1 s day) day (cbAt x (cntM x s day).toNat) l
def st139G : List AV → Option AV := sp4 labC strC intC tssC fun x s day l => bif okLb x && (decide (labM x = 0) && (Nat.ble l.length lim && l.all okT)) then some (sA (stM x s day l)) else none
theorem spCnt {x : Lb} (s : ByteArray) (day : Int) (h : okLb x = true) : cnt138G [lbA x, sA s, iA day] = some (iA (cntM x s day)) := by
 have := sp3_at (A := labC) (B := strC) (D := intC) (F := fun x s day => bif okLb x then some (iA (cntM x s day)) else none) x s day
 rw [h] at this; exact this
theorem spUses {x : Lb} {l : List Ts} (w : ByteArray) (fr : Int) (h : okLb x = true) (h1 : (Nat.ble l.length lim && l.all okT) = true) : uses202G [lbA x, slA tsC 3 l, sA w, iA fr] = some (iA (cntU x.2.1 w fr l)) := by
 have := sp4_at (A := labC) (B := tssC) (D := strC) (E := intC) (F := fun x l w fr => bif okLb x && (Nat.ble l.length lim && l.all okT) then some (iA (cntU x.2.1 w fr l)) else none) x l w fr
 rw [h, h1] at this; exact this
theorem h139 : Holds 139 st139G := holds4 fun x s day l r hr => by
 cases hb : okLb x && (decide (labM x = 0) && (Nat.ble l.length lim && l.all okT)) with
 | false => simp [hb] at hr
 | true =>
  simp only [hb, cond_true, Option.some.injEq] at hr; subst hr
  rw [Bool.and_eq_true, Bool.and_eq_true, decide_eq_true_eq] at hb
  obtain ⟨hok, hz, hl⟩ := hb
  have G := labM_zero hz
  unfold stM
  cases hn : nilB (specM x.2.1 s day) with
  | true => exact R2_ok.tr ((lx x t139a) s (specM x.2.1 s day) day (l.map tsC.enc)) ⟨⟨rfl, spSpec s day hok⟩, hn, rfl⟩
  | false =>
   rcases cnt_at x s day with hk | ⟨k, hkl, hk, _⟩
   ·rw [hk]
    have hs := spCnt s day hok
    rw [hk] at hs
    exact R2_ok.tr ((lx x t139b) s (specM x.2.1 s day) day (l.map tsC.enc) (-1)) ⟨⟨rfl, spSpec s day hok⟩, hn, ⟨rfl, hs⟩, rfl, rfl⟩
   ·rw [hk]
    have hs := spCnt s day hok
    rw [hk] at hs
    have hg := cbAt_get hkl
    obtain ⟨e1, e2, _⟩ := calM_zero (G.cs _ _ hg)
    obtain ⟨_, _, e3, _, _⟩ := calE_zero e1
    have f47 := spGood hok G.ps e3 e2
    have hlt : decide (Int.ofNat k < 0) = false := decide_eq_false (by simp)
    rw [hlt, cond_false, show (Int.ofNat k).toNat = k from rfl]
    have hgm := get_map cbC.enc hg
    generalize cbAt x k = c at f47 hgm ⊢
    unfold wrongM
    cases h1 : goodM x.1 c with
    | false =>
     rw [h1] at f47
     exact R2_ok.tr ((lx x t139c) s (specM x.2.1 s day) day (l.map tsC.enc) k c.1 c.2.1 c.2.2.1 c.2.2.2.1 (c.2.2.2.2.map intC.enc) false) ⟨⟨rfl, spSpec s day hok⟩, hn, ⟨rfl, hs⟩, hlt, hgm, ⟨rfl, f47⟩, rfl, rfl⟩
    | true =>
     rw [h1] at f47
     cases h2 : decide (IntKind.i64.wrap (day - c.2.2.2.1) > x.2.2.2.2.1) with
     | true => exact R2_ok.tr ((lx x t139d) s (specM x.2.1 s day) day (l.map tsC.enc) k c.1 c.2.1 c.2.2.1 c.2.2.2.1 (c.2.2.2.2.map intC.enc) true) ⟨⟨rfl, spSpec s day hok⟩, hn, ⟨rfl, hs⟩, hlt, hgm, ⟨rfl, f47⟩, rfl, h2, rfl⟩
     | false =>
      cases h3 : decide (cntU x.2.1 (specM x.2.1 s day) c.2.2.2.1 l ≥ x.2.2.2.2.2) with
      | true => exact R2_ok.tr ((lx x t139e) s (specM x.2.1 s day) day (l.map tsC.enc) k c.1 c.2.1 c.2.2.1 c.2.2.2.1 (c.2.2.2.2.map intC.enc) true _) ⟨⟨rfl, spSpec s day hok⟩, hn, ⟨rfl, hs⟩, hlt, hgm, ⟨rfl, f47⟩, rfl, h2, ⟨rfl, spUses _ _ hok hl⟩, h3, rfl⟩
      | false => exact R2_ok.tr ((lx x t139f) s (specM x.2.1 s day) day (l.map tsC.enc) k c.1 c.2.1 c.2.2.1 c.2.2.2.1 (c.2.2.2.2.map intC.enc) true _) ⟨⟨rfl, spSpec s day hok⟩, hn, ⟨rfl, hs⟩, hlt, hgm, ⟨rfl, f47⟩, rfl, h2, ⟨rfl, spUses _ _ hok hl⟩, h3, rfl⟩
noncomputable def R3 : Specs := (R2.set 139 st139G)
theorem R3_ok : Ok R3 := (R2_ok.set h139)
end Go.Vm.S3

namespace Go.Vm.S3
open Go.Proofs Go.RowKit
set_option maxRecDepth 100000
variable (ps fs cs ts : List AV) (d u : Int)
theorem r57a (k j : Nat) (a : ByteArray) (n : Int) (ws : List AV) (y z : ByteArray) (es1 : List AV) : Lr R3 57 37 0 [1, 2, 5, 6, 7] [2, 6] [1, 2, 5, 6, 7] [2, 6, 35] [5] [2, 6] [iA (Int.ofNat k), .ptr 2 0 0, nilS, .ptr 6 1 0, iA (Int.ofNat j)] [lbX ps fs cs ts d u, (false, .box [sA a, iA n, .rsl 1 ws false])] [.as 17 true, .chk [sA y], .chk [], .sp [lbE ps fs cs ts d u, sA y, iA n, .rsl 3 es1 false] (sA z)] [.t j ws.length, .g ws j, .k (0 ≤ k ∧ k ≤ ts.length), .q 139 [lbE ps fs cs ts d u, sA y, iA n, .rsl 3 (List.take (k - 0) (List.drop 0 ts)) false]] .nrm [iA (Int.ofNat k), .ptr 2 0 0, .sl 35 2 1 0 1, .ptr 6 1 0, iA (IntKind.i64.wrap (Int.ofNat j + 1))] [lbX ps fs cs ts d u, (false, .box [sA a, iA n, .rsl 1 ws false]), (false, .arr 1 [sA z] false)] := kn (by kernel_rfl)
theorem r57xa (k j : Nat) (a : ByteArray) (n : Int) (ws : List AV) : Lr R3 57 37 0 [1, 2, 5, 6, 7] [2, 6] [1, 2, 5, 6, 7] [2, 6] [5] [2, 6] [iA (Int.ofNat k), .ptr 2 0 0, nilS, .ptr 6 1 0, iA (Int.ofNat j)] [lbX ps fs cs ts d u, (false, .box [sA a, iA n, .rsl 1 ws false])] [.as 17 false] [.t j ws.length] (.exit 0) [.v (.slice none 0 0)] [lbX ps fs cs ts d u, (false, .box [sA a, iA n, .rsl 1 ws false])] := kn (by kernel_rfl)
theorem r57b (k j : Nat) (rs : List AV) (m : Nat) (a : ByteArray) (n : Int) (ws : List AV) (y z : ByteArray) (es1 : List AV) : Lr R3 57 37 0 [1, 2, 5, 6, 7] [2, 6, 35] [1, 2, 5, 6, 7] [2, 6, 35] [5] [2, 6, 35] [iA (Int.ofNat k), .ptr 2 0 0, .sl 35 2 1 0 m, .ptr 6 1 0, iA (Int.ofNat j)] [lbX ps fs cs ts d u, (false, .box [sA a, iA n, .rsl 1 ws false]), (false, .arr 1 rs false)] [.as 17 true, .chk [sA y], .chk [], .sp [lbE ps fs cs ts d u, sA y, iA n, .rsl 3 es1 false] (sA z), .ap []] [.t j ws.length, .g ws j, .k (0 ≤ k ∧ k ≤ ts.length), .q 139 [lbE ps fs cs ts d u, sA y, iA n, .rsl 3 (List.take (k - 0) (List.drop 0 ts)) false], .k (apn m rs 1 [sA z] 16)] .nrm [iA (Int.ofNat k), .ptr 2 0 0, .sl 35 2 1 0 ((rs ++ ([sA z] : List AV)).length), .ptr 6 1 0, iA (IntKind.i64.wrap (Int.ofNat j + 1))] [lbX ps fs cs ts d u, (false, .box [sA a, iA n, .rsl 1 ws false]), (false, .arr 1 (rs ++ ([sA z] : List AV)) false)] := kn (by kernel_rfl)
theorem r57xb (k j : Nat) (rs : List AV) (m : Nat) (a : ByteArray) (n : Int) (ws : List AV) : Lr R3 57 37 0 [1, 2, 5, 6, 7] [2, 6, 35] [1, 2, 5, 6, 7] [2, 6, 35] [5] [2, 6, 35] [iA (Int.ofNat k), .ptr 2 0 0, .sl 35 2 1 0 m, .ptr 6 1 0, iA (Int.ofNat j)] [lbX ps fs cs ts d u, (false, .box [sA a, iA n, .rsl 1 ws false]), (false, .arr 1 rs false)] [.as 17 false] [.t j ws.length] (.exit 0) [.sl 35 2 1 0 m] [lbX ps fs cs ts d u, (false, .box [sA a, iA n, .rsl 1 ws false]), (false, .arr 1 rs false)] := kn (by kernel_rfl)
theorem t57 (k : Nat) (a : ByteArray) (n : Int) (ws : List AV) (rs : List AV) : L R3 57 [lbE ps fs cs ts d u, iA (Int.ofNat k)] [.chk [.agg [sA a, iA n, .rsl 1 ws false]], .loop 0 [1, 2, 5, 6, 7] [2, 6] [5] [2, 6] (.exit 0) [.rsl 1 rs false] [lbX ps fs cs ts d u, (false, .box [sA a, iA n, .rsl 1 ws false])]] [.g ts k, .l 37 57 0 37 [iA (Int.ofNat k), .ptr 2 0 0, .v (.slice none 0 0), .ptr 6 1 0, iA 0] [lbX ps fs cs ts d u, (false, .box [sA a, iA n, .rsl 1 ws false])]] (.rsl 1 rs false) := kr (by kernel_rfl)
def ts0 : Ts := (⟨#[]⟩, 0, [])
def tsAt (x : Lb) (k : Nat) : Ts := (x.2.2.2.1[k]?).getD ts0
theorem tsAt_get {x : Lb} {k : Nat} (h : k < x.2.2.2.1.length) : x.2.2.2.1[k]? = some (tsAt x k) := by
 unfold tsAt
 rw [List.getElem?_eq_getElem h]; rfl
def wrgM (x : Lb) (k : Nat) : List ByteArray := (tsAt x k).2.2.map fun p => stM x p (tsAt x k).2.1 (x.2.2.2.1.take k)
def wrg57G : List AV → Option AV := sp2 labC intC fun x i => bif okLb x && (decide (labM x = 0) && (decide (0 ≤ i) && decide (i.toNat < x.2.2.2.1.length))) then some (slA strC 1 (wrgM x i.toNat)) else none
theorem spSt {x : Lb} {l : List Ts} (s : ByteArray) (day : Int) (h : okLb x = true) (hz : labM x = 0) (h1 : (Nat.ble l.length lim && l.all okT) = true) : st139G [lbA x, sA s, iA day, slA tsC 3 l] = some (sA (stM x s day l)) := by
 have := sp4_at (A := labC) (B := strC) (D := intC) (E := tssC) (F := fun x s day l => bif okLb x && (decide (labM x = 0) && (Nat.ble l.length lim && l.all okT)) then some (sA (stM x s day l)) else none) x s day l
 rw [h, decide_eq_true hz, h1] at this; exact this
theorem okTake {x : Lb} (h : okLb x = true) (k : Nat) : (Nat.ble (x.2.2.2.1.take k).length lim && (x.2.2.2.1.take k).all okT) = true := by
 have K := okLb_at h
 rw [Bool.and_eq_true, List.all_eq_true]
 refine ⟨Nat.ble_eq_true_of_le (by have := K.ts; rw [List.length_take]; omega), fun t ht => K.ws t (List.mem_of_mem_take ht)⟩
theorem loop57 (x : Lb) (hok : okLb x = true) (hz : labM x = 0) (k : Nat) (hk : k < x.2.2.2.1.length) (t : Ts) (ht : okT t = true) :
  LoopRun (CS R3) 0 37 false (lO (CS R3) 57 0) (mkSt [1, 2, 5, 6, 7] [2, 6] 37 [iA (Int.ofNat k), .ptr 2 0 0, nilS, .ptr 6 1 0, iA 0] [lbY x, tsX t]) (.exit 0)
   (mkSt [5] [2, 6] 37 [.rsl 1 ((t.2.2.map fun p => stM x p t.2.1 (x.2.2.2.1.take k)).map strC.enc) false] [lbY x, tsX t]) := by
 have hlim := Nat.le_of_ble_eq_true ht
 have hl := limTwo hlim
 have q1 : (0 ≤ k ∧ k ≤ (x.2.2.2.1.map tsC.enc).length) := ⟨Nat.zero_le _, by rw [List.length_map]; omega⟩
 have q2 : ∀ p : ByteArray, ([lbA x, sA p, iA t.2.1, .rsl 3 (List.take (k - 0) (List.drop 0 (x.2.2.2.1.map tsC.enc))) false] : List AV) = [lbA x, sA p, iA t.2.1, slA tsC 3 (x.2.2.2.1.take k)] := fun p => by rw [take_map]; rfl
 have q3 : ∀ p : ByteArray, st139G ([lbA x, sA p, iA t.2.1, .rsl 3 (List.take (k - 0) (List.drop 0 (x.2.2.2.1.map tsC.enc))) false] : List AV) = some (sA (stM x p t.2.1 (x.2.2.2.1.take k))) := fun p => by
  rw [q2]; exact spSt p _ hok hz (okTake hok k)
 exact LoopRun.buildsB (C := CS R3) (p := 0) (nt := 37) (rd := false) (c := lO (CS R3) 57 0) strC.enc (fun m => closedStr m) (fun p : ByteArray => stM x p t.2.1 (x.2.2.2.1.take k)) 35 1 [1, 2, 5, 6, 7] [2, 6] 37
  (fun j a => [iA (Int.ofNat k), .ptr 2 0 0, a, .ptr 6 1 0, iA (Int.ofNat j)]) (fun _ _ => [lbY x, tsX t]) t.2.2 (.exit 0) [5] (fun a => [a]) (fun _ => [lbY x, tsX t]) (by simp) (by decide) (by rfl) (fun _ => rfl)
  (fun es n hn => .cons (FzS.sl hn) .nil)
  (fun es n hn => .cons (.box (.cons (FzS.cl rfl) (.cons (FzS.cl rfl) (.cons (FzS.cl rfl) (.cons (FzS.cl rfl) (.cons (FzS.cl rfl) (.cons (FzS.cl rfl) .nil))))))) (.cons (.box (.cons (FzS.cl rfl) (.cons (FzS.cl rfl) (.cons (FzS.cl rfl) .nil)))) .nil))
  (.cons Weak.nilSl .nil) (.cons .rfl (.cons .rfl .nil))
  (fun j p hp => by
   have hj := lt_len hp
   have hlt : decide (Int.ofNat j < Int.ofNat (t.2.2.map strC.enc).length) = true := by rw [e_st]; exact lt_of hj
   have hr := (lx x r57a) k j t.1 t.2.1 (t.2.2.map strC.enc) p (stM x p t.2.1 (x.2.2.2.1.take k)) ((x.2.2.2.1.take k).map tsC.enc)
   rw [wrap_ix hj hl] at hr
   exact R3_ok.rndN hr ⟨hlt, get_map _ hp, q1, ⟨q2 p, q3 p⟩, ⟨closedStr [_], trivial⟩, rfl⟩)
  (fun j p rs hp hrs => by
   have hj := lt_len hp
   have hlt : decide (Int.ofNat j < Int.ofNat (t.2.2.map strC.enc).length) = true := by rw [e_st]; exact lt_of hj
   have hr := (lx x r57b) k j (rs.map strC.enc) (rs.map strC.enc).length t.1 t.2.1 (t.2.2.map strC.enc) p (stM x p t.2.1 (x.2.2.2.1.take k)) ((x.2.2.2.1.take k).map tsC.enc)
   rw [wrap_ix hj hl] at hr
   have hlen : (rs.map strC.enc ++ [strC.enc (stM x p t.2.1 (x.2.2.2.1.take k))]).length ≤ 1000001 := by rw [List.length_append, List.length_map]; unfold lim at hlim; simp; omega
   exact R3_ok.rndN hr ⟨hlt, get_map _ hp, q1, ⟨q2 p, q3 p⟩, ⟨rfl, rfl, rfl, by show (rs.map strC.enc ++ [strC.enc (stM x p t.2.1 (x.2.2.2.1.take k))]).length * 16 ≤ _; omega, by show (rs.map strC.enc ++ [strC.enc (stM x p t.2.1 (x.2.2.2.1.take k))]).length ≤ _; omega, by decide⟩, ⟨(closedStr rs).append (closedStr [_]), trivial⟩, rfl⟩)
  (R3_ok.rndX ((lx x r57xa) k t.2.2.length t.1 t.2.1 (t.2.2.map strC.enc)) ⟨by rw [e_st]; exact lt_self _, trivial, rfl⟩)
  (fun rs => R3_ok.rndX ((lx x r57xb) k t.2.2.length (rs.map strC.enc) (rs.map strC.enc).length t.1 t.2.1 (t.2.2.map strC.enc)) ⟨by rw [e_st]; exact lt_self _, ⟨closedStr rs, trivial⟩, rfl⟩)
theorem h57 : Holds 57 wrg57G := holds2 fun x i r hr => by
 cases hb : okLb x && (decide (labM x = 0) && (decide (0 ≤ i) && decide (i.toNat < x.2.2.2.1.length))) with
 | false => simp [hb] at hr
 | true =>
  simp only [hb, cond_true, Option.some.injEq] at hr; subst hr
  simp only [Bool.and_eq_true, decide_eq_true_eq] at hb
  obtain ⟨hok, hz, hi0, hi1⟩ := hb
  have hi : i = Int.ofNat i.toNat := by simp only [Int.ofNat_eq_natCast]; omega
  generalize hkk : i.toNat = k at hi hi1 ⊢
  subst hi
  have K := okLb_at hok
  have hg := tsAt_get hi1
  have h := loop57 x hok hz k hi1 (tsAt x k) (K.ws _ (List.mem_of_getElem? hg))
  exact R3_ok.tr ((lx x t57) k (tsAt x k).1 (tsAt x k).2.1 ((tsAt x k).2.2.map strC.enc) ((wrgM x k).map strC.enc)) ⟨get_map tsC.enc hg, ⟨trivial, trivial, h.says⟩, rfl⟩
noncomputable def R4 : Specs := (R3.set 57 wrg57G)
theorem R4_ok : Ok R4 := (R3_ok.set h57)
end Go.Vm.S3

namespace Go.Vm.S3
open Go.Proofs Go.RowKit
def rstM1 (x : Lb) (day : Int) (p : ByteArray) : ByteArray := bif decide (cntM x p day < 0) then ⟨#[]⟩ else (cbAt x (cntM x p day).toNat).1
def rstM (x : Lb) (k : Nat) : List ByteArray := (tsAt x k).2.2.map (rstM1 x (tsAt x k).2.1)
noncomputable def R5 : Specs := R4
theorem R5_ok : Ok R5 := R4_ok
end Go.Vm.S3

namespace Go.Vm.S3
open Go.Proofs Go.RowKit
def reaG (x : Lb) (s : ByteArray) (i : Nat) (t : Ts) : List ByteArray := bif hasWordM (rstM x i) s then [t.1] else []
def reaM (x : Lb) (s : ByteArray) : List ByteArray := gath (reaG x s) 0 x.2.2.2.1
noncomputable def R6 : Specs := R5
theorem R6_ok : Ok R6 := R5_ok
end Go.Vm.S3

namespace Go.Vm.S3
open Go.Proofs Go.RowKit
noncomputable def R7 : Specs := R6
theorem R7_ok : Ok R7 := R6_ok
end Go.Vm.S3
