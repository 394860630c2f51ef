/- Tests: what is known of a part on a day; its words. -/
import Derived.Test.YtliikgffjphhjaaGreatDoorS3GN
import Derived.Test.YtliikgffjphhjaaGreatDoorS3GL
namespace Go.Vm.S3
open Go.Proofs Go.RowKit
abbrev siE (ps fs cs ts : List AV) (d u day : Int) (w a b c : ByteArray) (n : Int) (us : List AV) (k m : Int) : AV := .agg [.rsl 7 ps false, .rsl 3 fs false, .rsl 5 cs false, .rsl 3 ts false, iA d, iA u, iA day, sA w, sA a, sA b, sA c, iA n, .rsl 1 us false, iA k, iA m]
end Go.Vm.S3

namespace Go.Vm.S3
open Go.Proofs Go.RowKit
set_option maxRecDepth 100000
variable (ps fs cs ts : List AV) (d u : Int)
theorem t145 (s : ByteArray) (day : Int) (es : List AV) (w : ByteArray) (m : Int) (a b c : ByteArray) (n : Int) (us : List AV) (k : Int) : L R13 145 [lbE ps fs cs ts d u, sA s, iA day, .rsl 3 es false] [.sp [lbE ps fs cs ts d u, sA s, iA day] (.agg [sA a, sA b, sA c, iA n, .rsl 1 us false, iA k]), .sp [lbE ps fs cs ts d u, sA s, iA day] (sA w), .sp [lbE ps fs cs ts d u, .rsl 3 es false, sA w, iA n] (iA m)] [.f 199, .f 113, .f 206] (siE ps fs cs ts d u day w a b c n us k m) := kR (by kernel_rfl)
theorem t278 (day : Int) (w : ByteArray) (a b c : ByteArray) (n : Int) (us : List AV) (k : Int) (m : Int) (q : Bool) : L R13 278 [siE ps fs cs ts d u day w a b c n us k m] [.sp [lbE ps fs cs ts d u, .agg [sA a, sA b, sA c, iA n, .rsl 1 us false]] (bA q)] [.f 115] (bA !q) := kR (by kernel_rfl)
abbrev Si : Type := List Pt × List Ft × List Cb × List Ts × Int × Int × Int × ByteArray × ByteArray × ByteArray × ByteArray × Int × List Int × Int × Int
def siC : Cod Si := aggC (RC.cons ptsC (RC.cons ftsC (RC.cons cbsC (RC.cons tssC (RC.cons intC (RC.cons intC (RC.cons intC (RC.cons strC (RC.cons strC (RC.cons strC (RC.cons strC (RC.cons intC (RC.cons intsC (RC.cons intC (RC.one intC)))))))))))))))
abbrev siOf (x : Lb) (day : Int) (w : ByteArray) (r : Rs) (m : Int) : Si := (x.1, x.2.1, x.2.2.1, x.2.2.2.1, x.2.2.2.2.1, x.2.2.2.2.2, day, w, r.1, r.2.1, r.2.2.1, r.2.2.2.1, r.2.2.2.2.1, r.2.2.2.2.2, m)
abbrev siA (x : Lb) (day : Int) (w : ByteArray) (r : Rs) (m : Int) : AV := siE (x.1.map ptC.enc) (x.2.1.map ftC.enc) (x.2.2.1.map cbC.enc) (x.2.2.2.1.map tsC.enc) x.2.2.2.2.1 x.2.2.2.2.2 day w r.1 r.2.1 r.2.2.1 r.2.2.2.1 (r.2.2.2.2.1.map intC.enc) r.2.2.2.2.2 m
abbrev siLb (y : Si) : Lb := (y.1, y.2.1, y.2.2.1, y.2.2.2.1, y.2.2.2.2.1, y.2.2.2.2.2.1)
abbrev siCb (y : Si) : Cb := (y.2.2.2.2.2.2.2.2.1, y.2.2.2.2.2.2.2.2.2.1, y.2.2.2.2.2.2.2.2.2.2.1, y.2.2.2.2.2.2.2.2.2.2.2.1, y.2.2.2.2.2.2.2.2.2.2.2.2.1)
def sitM (x : Lb) (s : ByteArray) (day : Int) (l : List Ts) : Si := siOf x day (specM x.2.1 s day) (rsM x s day) (cntU x.2.1 (specM x.2.1 s day) (rsM x s day).2.2.2.1 l)
abbrev sitA (x : Lb) (s : ByteArray) (day : Int) (l : List Ts) : AV := siA x day (specM x.2.1 s day) (rsM x s day) (cntU x.2.1 (specM x.2.1 s day) (rsM x s day).2.2.2.1 l)
def sit145G : List AV → Option AV := sp4 labC strC intC tssC fun x s day l => bif okLb x && (Nat.ble l.length lim && l.all okT) then some (sitA x s day l) else none
set_option maxRecDepth 20000 in
theorem h145 : Holds 145 sit145G := holds4 fun x s day l r hr => by
 cases hb : okLb x && (Nat.ble l.length lim && l.all okT) with
 | false => simp [hb] at hr
 | true =>
  simp only [hb, cond_true, Option.some.injEq] at hr; subst hr
  rw [Bool.and_eq_true] at hb
  obtain ⟨hok, hl⟩ := hb
  exact R13_ok.tr ((lx x t145) s day (l.map tsC.enc) (specM x.2.1 s day) _ (rsM x s day).1 (rsM x s day).2.1 (rsM x s day).2.2.1 (rsM x s day).2.2.2.1 ((rsM x s day).2.2.2.2.1.map intC.enc) (rsM x s day).2.2.2.2.2) ⟨⟨rfl, spRs s day hok⟩, ⟨rfl, spSpec s day hok⟩, ⟨rfl, spUs _ _ hok hl⟩, rfl⟩
def okCal (x : Lb) (c : Cb) : Bool := decide (partsM x.1 = 0) && (hasP x.1 c.2.1 && decide (c.2.2.2.2.length = coLen x.1 c.2.1))
def f278G : List AV → Option AV := sp1 siC fun y => bif okLb (siLb y) && okCal (siLb y) (siCb y) then some (bA (!goodM y.1 (siCb y))) else none
set_option maxRecDepth 20000 in
theorem h278 : Holds 278 f278G := holds1 fun y r hr => by
 cases hb : okLb (siLb y) && okCal (siLb y) (siCb y) with
 | false => simp [hb] at hr
 | true =>
  simp only [hb, cond_true, Option.some.injEq] at hr; subst hr
  unfold okCal at hb
  simp only [Bool.and_eq_true, decide_eq_true_eq] at hb
  obtain ⟨hok, h1, h2, h3⟩ := hb
  exact R13_ok.tr (t278 (y.1.map ptC.enc) (y.2.1.map ftC.enc) (y.2.2.1.map cbC.enc) (y.2.2.2.1.map tsC.enc) y.2.2.2.2.1 y.2.2.2.2.2.1 y.2.2.2.2.2.2.1 y.2.2.2.2.2.2.2.1 y.2.2.2.2.2.2.2.2.1 y.2.2.2.2.2.2.2.2.2.1 y.2.2.2.2.2.2.2.2.2.2.1 y.2.2.2.2.2.2.2.2.2.2.2.1 (y.2.2.2.2.2.2.2.2.2.2.2.2.1.map intC.enc) y.2.2.2.2.2.2.2.2.2.2.2.2.2.1 y.2.2.2.2.2.2.2.2.2.2.2.2.2.2 _) ⟨⟨rfl, spGood (x := siLb y) (c := siCb y) hok h1 h2 h3⟩, rfl⟩
noncomputable def R14 : Specs := ((R13.set 145 sit145G).set 278 f278G)
theorem R14_ok : Ok R14 := ((R13_ok.set h145).set h278)
end Go.Vm.S3

namespace Go.Vm.S3
open Go.Proofs Go.RowKit
set_option maxRecDepth 100000
variable (ps fs cs ts : List AV) (d u : Int)
theorem t146a (day : Int) (w : ByteArray) (a b c : ByteArray) (n : Int) (us : List AV) (k : Int) (m : Int) : L R14 146 [siE ps fs cs ts d u day w a b c n us k m] [.as 12 true] [.b (w.toList == (ByteArray.mk #[]).toList)] (sA sMissing) := kR (by kernel_rfl)
theorem t146b (day : Int) (w : ByteArray) (a b c : ByteArray) (n : Int) (us : List AV) (k : Int) (m : Int) : L R14 146 [siE ps fs cs ts d u day w a b c n us k m] [.as 12 false, .as 12 true] [.b (w.toList == (ByteArray.mk #[]).toList), .b (decide (k < 0))] (sA sUncal) := kR (by kernel_rfl)
abbrev cR15_15 (ps fs cs ts : List AV) (d u day : Int) (w a b c : ByteArray) (n : Int) (us : List AV) (k m : Int) (q : Bool) (h9 : List Hn) (a9 : List An) (r9 : AV) : Prop := L R14 146 [siE ps fs cs ts d u day w a b c n us k m] ([.as 12 false, .as 12 false, .sp [siE ps fs cs ts d u day w a b c n us k m] (bA q)] ++ h9) ([.b (w.toList == (ByteArray.mk #[]).toList), .b (decide (k < 0)), .f 278] ++ a9) r9
theorem t146c (day : Int) (w : ByteArray) (a b c : ByteArray) (n : Int) (us : List AV) (k : Int) (m : Int) (q : Bool) : cR15_15 ps fs cs ts d u day w a b c n us k m q [.as 12 true] [.b q] (sA sFailed) := kR (by kernel_rfl)
theorem t146d (day : Int) (w : ByteArray) (a b c : ByteArray) (n : Int) (us : List AV) (k : Int) (m : Int) (q : Bool) : cR15_15 ps fs cs ts d u day w a b c n us k m q [.as 12 false, .as 12 true] [.b q, .b (decide (IntKind.i64.wrap (day - n) > d))] (sA sOld) := kR (by kernel_rfl)
theorem t146e (day : Int) (w : ByteArray) (a b c : ByteArray) (n : Int) (us : List AV) (k : Int) (m : Int) (q : Bool) : cR15_15 ps fs cs ts d u day w a b c n us k m q [.as 12 false, .as 12 false, .as 12 true] [.b q, .b (decide (IntKind.i64.wrap (day - n) > d)), .b (decide (m ≥ u))] (sA sWorn) := kR (by kernel_rfl)
theorem t146f (day : Int) (w : ByteArray) (a b c : ByteArray) (n : Int) (us : List AV) (k : Int) (m : Int) (q : Bool) : cR15_15 ps fs cs ts d u day w a b c n us k m q [.as 12 false, .as 12 false, .as 12 false] [.b q, .b (decide (IntKind.i64.wrap (day - n) > d)), .b (decide (m ≥ u))] (sA (ByteArray.mk #[])) := kR (by kernel_rfl)
abbrev siDay (y : Si) : Int := y.2.2.2.2.2.2.1
abbrev siW (y : Si) : ByteArray := y.2.2.2.2.2.2.2.1
abbrev siK (y : Si) : Int := y.2.2.2.2.2.2.2.2.2.2.2.2.2.1
abbrev siM (y : Si) : Int := y.2.2.2.2.2.2.2.2.2.2.2.2.2.2
def wrS (y : Si) : ByteArray :=
 bif nilB (siW y) then sMissing else bif decide (siK y < 0) then sUncal else bif !goodM y.1 (siCb y) then sFailed else bif decide (IntKind.i64.wrap (siDay y - (siCb y).2.2.2.1) > y.2.2.2.2.1) then sOld else bif decide (siM y ≥ y.2.2.2.2.2.1) then sWorn else ⟨#[]⟩
def okSi (y : Si) : Bool := okLb (siLb y) && (bif nilB (siW y) then true else bif decide (siK y < 0) then true else okCal (siLb y) (siCb y))
def wr146G : List AV → Option AV := sp1 siC fun y => bif okSi y then some (sA (wrS y)) else none
theorem sp278 {y : Si} (h : okLb (siLb y) = true) (h1 : okCal (siLb y) (siCb y) = true) : f278G [siC.enc y] = some (bA (!goodM y.1 (siCb y))) := by
 have := sp1_at (A := siC) (F := fun y => bif okLb (siLb y) && okCal (siLb y) (siCb y) then some (bA (!goodM y.1 (siCb y))) else none) y
 rw [h, h1] at this; exact this
set_option maxRecDepth 20000 in
theorem h146 : Holds 146 wr146G := holds1 fun y r hr => by
 cases hb : okSi y with
 | false => simp [hb] at hr
 | true =>
  simp only [hb, cond_true, Option.some.injEq] at hr; subst hr
  unfold okSi at hb
  rw [Bool.and_eq_true] at hb
  obtain ⟨hok, hc⟩ := hb
  unfold wrS
  cases h1 : nilB (siW y) with
  | true => exact R14_ok.tr (t146a (y.1.map ptC.enc) (y.2.1.map ftC.enc) (y.2.2.1.map cbC.enc) (y.2.2.2.1.map tsC.enc) y.2.2.2.2.1 y.2.2.2.2.2.1 y.2.2.2.2.2.2.1 y.2.2.2.2.2.2.2.1 y.2.2.2.2.2.2.2.2.1 y.2.2.2.2.2.2.2.2.2.1 y.2.2.2.2.2.2.2.2.2.2.1 y.2.2.2.2.2.2.2.2.2.2.2.1 (y.2.2.2.2.2.2.2.2.2.2.2.2.1.map intC.enc) y.2.2.2.2.2.2.2.2.2.2.2.2.2.1 y.2.2.2.2.2.2.2.2.2.2.2.2.2.2) ⟨h1, rfl⟩
  | false =>
   rw [h1, cond_false] at hc
   cases h2 : decide (siK y < 0) with
   | true => exact R14_ok.tr (t146b (y.1.map ptC.enc) (y.2.1.map ftC.enc) (y.2.2.1.map cbC.enc) (y.2.2.2.1.map tsC.enc) y.2.2.2.2.1 y.2.2.2.2.2.1 y.2.2.2.2.2.2.1 y.2.2.2.2.2.2.2.1 y.2.2.2.2.2.2.2.2.1 y.2.2.2.2.2.2.2.2.2.1 y.2.2.2.2.2.2.2.2.2.2.1 y.2.2.2.2.2.2.2.2.2.2.2.1 (y.2.2.2.2.2.2.2.2.2.2.2.2.1.map intC.enc) y.2.2.2.2.2.2.2.2.2.2.2.2.2.1 y.2.2.2.2.2.2.2.2.2.2.2.2.2.2) ⟨h1, h2, rfl⟩
   | false =>
    rw [h2, cond_false] at hc
    have hs := sp278 hok hc
    cases h3 : !goodM y.1 (siCb y) with
    | true => rw [h3] at hs; exact R14_ok.tr (t146c (y.1.map ptC.enc) (y.2.1.map ftC.enc) (y.2.2.1.map cbC.enc) (y.2.2.2.1.map tsC.enc) y.2.2.2.2.1 y.2.2.2.2.2.1 y.2.2.2.2.2.2.1 y.2.2.2.2.2.2.2.1 y.2.2.2.2.2.2.2.2.1 y.2.2.2.2.2.2.2.2.2.1 y.2.2.2.2.2.2.2.2.2.2.1 y.2.2.2.2.2.2.2.2.2.2.2.1 (y.2.2.2.2.2.2.2.2.2.2.2.2.1.map intC.enc) y.2.2.2.2.2.2.2.2.2.2.2.2.2.1 y.2.2.2.2.2.2.2.2.2.2.2.2.2.2 true) ⟨h1, h2, ⟨rfl, hs⟩, rfl, rfl⟩
    | false =>
     rw [h3] at hs
     cases h4 : decide (IntKind.i64.wrap (siDay y - (siCb y).2.2.2.1) > y.2.2.2.2.1) with
     | true => exact R14_ok.tr (t146d (y.1.map ptC.enc) (y.2.1.map ftC.enc) (y.2.2.1.map cbC.enc) (y.2.2.2.1.map tsC.enc) y.2.2.2.2.1 y.2.2.2.2.2.1 y.2.2.2.2.2.2.1 y.2.2.2.2.2.2.2.1 y.2.2.2.2.2.2.2.2.1 y.2.2.2.2.2.2.2.2.2.1 y.2.2.2.2.2.2.2.2.2.2.1 y.2.2.2.2.2.2.2.2.2.2.2.1 (y.2.2.2.2.2.2.2.2.2.2.2.2.1.map intC.enc) y.2.2.2.2.2.2.2.2.2.2.2.2.2.1 y.2.2.2.2.2.2.2.2.2.2.2.2.2.2 false) ⟨h1, h2, ⟨rfl, hs⟩, rfl, h4, rfl⟩
     | false =>
      cases h5 : decide (siM y ≥ y.2.2.2.2.2.1) with
      | true => exact R14_ok.tr (t146e (y.1.map ptC.enc) (y.2.1.map ftC.enc) (y.2.2.1.map cbC.enc) (y.2.2.2.1.map tsC.enc) y.2.2.2.2.1 y.2.2.2.2.2.1 y.2.2.2.2.2.2.1 y.2.2.2.2.2.2.2.1 y.2.2.2.2.2.2.2.2.1 y.2.2.2.2.2.2.2.2.2.1 y.2.2.2.2.2.2.2.2.2.2.1 y.2.2.2.2.2.2.2.2.2.2.2.1 (y.2.2.2.2.2.2.2.2.2.2.2.2.1.map intC.enc) y.2.2.2.2.2.2.2.2.2.2.2.2.2.1 y.2.2.2.2.2.2.2.2.2.2.2.2.2.2 false) ⟨h1, h2, ⟨rfl, hs⟩, rfl, h4, h5, rfl⟩
      | false => exact R14_ok.tr (t146f (y.1.map ptC.enc) (y.2.1.map ftC.enc) (y.2.2.1.map cbC.enc) (y.2.2.2.1.map tsC.enc) y.2.2.2.2.1 y.2.2.2.2.2.1 y.2.2.2.2.2.2.1 y.2.2.2.2.2.2.2.1 y.2.2.2.2.2.2.2.2.1 y.2.2.2.2.2.2.2.2.2.1 y.2.2.2.2.2.2.2.2.2.2.1 y.2.2.2.2.2.2.2.2.2.2.2.1 (y.2.2.2.2.2.2.2.2.2.2.2.2.1.map intC.enc) y.2.2.2.2.2.2.2.2.2.2.2.2.2.1 y.2.2.2.2.2.2.2.2.2.2.2.2.2.2 false) ⟨h1, h2, ⟨rfl, hs⟩, rfl, h4, h5, rfl⟩
set_option maxRecDepth 20000 in
theorem wrS_sit {x : Lb} (s : ByteArray) (day : Int) (l : List Ts) : wrS (sitM x s day l) = stM x s day l := by
 unfold stM wrS sitM
 cases h1 : nilB (specM x.2.1 s day) with
 | true => simp only [cond_true]
 | false =>
  simp only [cond_false]
  unfold rsM
  rcases cnt_at x s day with hk | ⟨k, _, hk, _⟩
  ·rw [hk]; rfl
  ·rw [hk, show decide (Int.ofNat k < 0) = false from decide_eq_false (by simp)]; rfl
set_option maxRecDepth 20000 in
theorem okSi_sit {x : Lb} (s : ByteArray) (day : Int) (l : List Ts) (hok : okLb x = true) (hz : labM x = 0) : okSi (sitM x s day l) = true := by
 unfold okSi sitM
 have G := labM_zero hz
 rw [Bool.and_eq_true]
 refine ⟨hok, ?_⟩
 cases h1 : nilB (specM x.2.1 s day) with
 | true => simp only [cond_true]
 | false =>
  simp only [cond_false]
  unfold rsM
  rcases cnt_at x s day with hk | ⟨k, hkl, hk, _⟩
  ·rw [hk]; rfl
  ·rw [hk, show decide (Int.ofNat k < 0) = false from decide_eq_false (by simp)]
   simp only [cond_false]
   rw [show decide ((rsOf (cbAt x (Int.ofNat k).toNat) (Int.ofNat k)).2.2.2.2.2 < 0) = false from decide_eq_false (by show ¬ (Int.ofNat k < 0); simp), cond_false]
   have hg := cbAt_get hkl
   obtain ⟨e1, e2, _⟩ := calM_zero (G.cs _ _ hg)
   obtain ⟨_, _, e3, _, _⟩ := calE_zero e1
   show okCal x (cbAt x k) = true
   unfold okCal
   rw [decide_eq_true G.ps, e3, decide_eq_true e2]; rfl
noncomputable def R15 : Specs := (R14.set 146 wr146G)
theorem R15_ok : Ok R15 := (R14_ok.set h146)
end Go.Vm.S3

namespace Go.Vm.S3
open Go.Proofs Go.RowKit
set_option maxRecDepth 100000
variable (ps fs cs ts : List AV) (d u : Int)
set_option maxRecDepth 20000
theorem t200 (ta : ByteArray) (tn : Int) (ws : List AV) (i : Nat) (p : ByteArray) (es1 : List AV) (z : ByteArray) (day : Int) (w : ByteArray) (a b c : ByteArray) (n : Int) (us : List AV) (k : Int) (m : Int) : L R15 200 [sA p, .rptr [.rsl 7 ps false, .rsl 3 fs false, .rsl 5 cs false, .rsl 3 ts false, iA d, iA u], .rptr [sA ta, iA tn, .rsl 1 ws false], .rptr [iA (Int.ofNat i)]] [.chk [], .sp [lbE ps fs cs ts d u, sA p, iA tn, .rsl 3 es1 false] (siE ps fs cs ts d u day w a b c n us k m), .sp [siE ps fs cs ts d u day w a b c n us k m] (sA z)] [.k (0 ≤ i ∧ i ≤ ts.length), .q 145 [lbE ps fs cs ts d u, sA p, iA tn, .rsl 3 (List.take (i - 0) (List.drop 0 ts)) false], .f 146] (sA z) := kR (by kernel_rfl)
theorem spSit {x : Lb} (s : ByteArray) (day : Int) {l : List Ts} (hok : okLb x = true) (h1 : (Nat.ble l.length lim && l.all okT) = true) : sit145G [lbA x, sA s, iA day, slA tsC 3 l] = some (sitA x s day l) := by
 have := sp4_at (A := labC) (B := strC) (D := intC) (E := tssC) (F := fun x s day l => bif okLb x && (Nat.ble l.length lim && l.all okT) then some (sitA x s day l) else none) x s day l
 rw [hok, h1] at this; exact this
theorem spWr {x : Lb} (s : ByteArray) (day : Int) (l : List Ts) (hok : okLb x = true) (hz : labM x = 0) : wr146G [sitA x s day l] = some (sA (stM x s day l)) := by
 have := sp1_at (A := siC) (F := fun y => bif okSi y then some (sA (wrS y)) else none) (sitM x s day l)
 rw [okSi_sit s day l hok hz, cond_true, wrS_sit] at this; exact this
def in200 (x : Lb) (i : Int) : Bool := okLb x && (decide (labM x = 0) && (decide (0 ≤ i) && decide (i.toNat ≤ x.2.2.2.1.length)))
def nm200G : List AV → Option AV := sp4 strC (rptrR labR) (rptrR tsR) (rptrC intC) fun p x t i => bif in200 x i then some (sA (stM x p t.2.1 (x.2.2.2.1.take i.toNat))) else none
theorem h200 : Holds 200 nm200G := holds4 fun p x t i r hr => by
 cases hb : in200 x i with
 | false => simp [hb] at hr
 | true =>
  simp only [hb, cond_true, Option.some.injEq] at hr; subst hr
  unfold in200 at hb
  simp only [Bool.and_eq_true, decide_eq_true_eq] at hb
  obtain ⟨hok, hz, h0, h1⟩ := hb
  obtain ⟨k, rfl⟩ := Int.eq_ofNat_of_zero_le h0
  simp only [Int.toNat_natCast] at h1 ⊢
  have q1 : (0 ≤ k ∧ k ≤ (x.2.2.2.1.map tsC.enc).length) := ⟨Nat.zero_le _, by rw [List.length_map]; exact h1⟩
  have q2 : ([lbA x, sA p, iA t.2.1, .rsl 3 (List.take (k - 0) (List.drop 0 (x.2.2.2.1.map tsC.enc))) false] : List AV) = [lbA x, sA p, iA t.2.1, slA tsC 3 (x.2.2.2.1.take k)] := by rw [take_map]; rfl
  have q3 := spSit p t.2.1 hok (okTake hok k)
  rw [← q2] at q3
  have q4 := spWr p t.2.1 (x.2.2.2.1.take k) hok hz
  exact R15_ok.tr ((lx x t200) t.1 t.2.1 (t.2.2.map strC.enc) k p ((x.2.2.2.1.take k).map tsC.enc) (stM x p t.2.1 (x.2.2.2.1.take k)) t.2.1 (specM x.2.1 p t.2.1) (rsM x p t.2.1).1 (rsM x p t.2.1).2.1 (rsM x p t.2.1).2.2.1 (rsM x p t.2.1).2.2.2.1 ((rsM x p t.2.1).2.2.2.2.1.map intC.enc) (rsM x p t.2.1).2.2.2.2.2 (cntU x.2.1 (specM x.2.1 p t.2.1) (rsM x p t.2.1).2.2.2.1 (x.2.2.2.1.take k))) ⟨q1, ⟨q2, q3⟩, ⟨rfl, q4⟩, rfl⟩
noncomputable def R16 : Specs := (R15.set 200 nm200G)
theorem R16_ok : Ok R16 := (R15_ok.set h200)
end Go.Vm.S3

namespace Go.Vm.S3
open Go.Proofs Go.RowKit
set_option maxRecDepth 100000
variable (ps fs cs ts : List AV) (d u : Int)
set_option maxRecDepth 20000
theorem s197a (a : ByteArray) (n : Int) (ws : List AV) (k : Int) (es : List AV) (l i : Nat) (y z : ByteArray) : Lr R16 197 22 0 [1, 5, 8, 9, 10] [] [1, 5, 8, 9, 10] [19] [5] [] [.fn (.func 200) [] [.rptr [.rsl 7 ps false, .rsl 3 fs false, .rsl 5 cs false, .rsl 3 ts false, iA d, iA u], .rptr [sA a, iA n, .rsl 1 ws false], .rptr [iA k]], nilS, .rsl 1 es false, iA (Int.ofNat l), iA (Int.ofNat i)] [] [.as 11 true, .chk [sA y], .sp [sA y, .rptr [.rsl 7 ps false, .rsl 3 fs false, .rsl 5 cs false, .rsl 3 ts false, iA d, iA u], .rptr [sA a, iA n, .rsl 1 ws false], .rptr [iA k]] (sA z)] [.t i l, .g es i, .f 200] .nrm [.fn (Fn.func 200) [] [.rptr [.rsl 7 ps false, .rsl 3 fs false, .rsl 5 cs false, .rsl 3 ts false, iA d, iA u], .rptr [sA a, iA n, .rsl 1 ws false], .rptr [iA k]], .sl 19 0 1 0 1, .rsl 1 es false, iA (Int.ofNat l), iA (IntKind.i64.wrap (Int.ofNat i + 1))] [(false, .arr 1 [sA z] false)] := kN (by kernel_rfl)
theorem s197xa (a : ByteArray) (n : Int) (ws : List AV) (k : Int) (es : List AV) (l i : Nat) : Lr R16 197 22 0 [1, 5, 8, 9, 10] [] [1, 5, 8, 9, 10] [] [5] [] [.fn (.func 200) [] [.rptr [.rsl 7 ps false, .rsl 3 fs false, .rsl 5 cs false, .rsl 3 ts false, iA d, iA u], .rptr [sA a, iA n, .rsl 1 ws false], .rptr [iA k]], nilS, .rsl 1 es false, iA (Int.ofNat l), iA (Int.ofNat i)] [] [.as 11 false] [.t i l] (.exit 0) [.v (.slice none 0 0)] [] := kN (by kernel_rfl)
theorem s197b (a : ByteArray) (n : Int) (ws : List AV) (k : Int) (es : List AV) (l i : Nat) (rs : List AV) (m : Nat) (y z : ByteArray) : Lr R16 197 22 0 [1, 5, 8, 9, 10] [19] [1, 5, 8, 9, 10] [19] [5] [19] [.fn (.func 200) [] [.rptr [.rsl 7 ps false, .rsl 3 fs false, .rsl 5 cs false, .rsl 3 ts false, iA d, iA u], .rptr [sA a, iA n, .rsl 1 ws false], .rptr [iA k]], .sl 19 0 1 0 m, .rsl 1 es false, iA (Int.ofNat l), iA (Int.ofNat i)] [(false, .arr 1 rs false)] [.as 11 true, .chk [sA y], .sp [sA y, .rptr [.rsl 7 ps false, .rsl 3 fs false, .rsl 5 cs false, .rsl 3 ts false, iA d, iA u], .rptr [sA a, iA n, .rsl 1 ws false], .rptr [iA k]] (sA z), .chk rs] [.t i l, .g es i, .f 200, .k (apn m rs 1 [sA z] 16)] .nrm [.fn (Fn.func 200) [] [.rptr [.rsl 7 ps false, .rsl 3 fs false, .rsl 5 cs false, .rsl 3 ts false, iA d, iA u], .rptr [sA a, iA n, .rsl 1 ws false], .rptr [iA k]], .sl 19 0 1 0 ((rs ++ ([sA z] : List AV)).length), .rsl 1 es false, iA (Int.ofNat l), iA (IntKind.i64.wrap (Int.ofNat i + 1))] [(false, .arr 1 (rs ++ ([sA z] : List AV)) false)] := kN (by kernel_rfl)
theorem s197xb (a : ByteArray) (n : Int) (ws : List AV) (k : Int) (es : List AV) (l i : Nat) (rs : List AV) (m : Nat) : Lr R16 197 22 0 [1, 5, 8, 9, 10] [19] [1, 5, 8, 9, 10] [19] [5] [19] [.fn (.func 200) [] [.rptr [.rsl 7 ps false, .rsl 3 fs false, .rsl 5 cs false, .rsl 3 ts false, iA d, iA u], .rptr [sA a, iA n, .rsl 1 ws false], .rptr [iA k]], .sl 19 0 1 0 m, .rsl 1 es false, iA (Int.ofNat l), iA (Int.ofNat i)] [(false, .arr 1 rs false)] [.as 11 false] [.t i l] (.exit 0) [.sl 19 0 1 0 m] [(false, .arr 1 rs false)] := kN (by kernel_rfl)
theorem s197 (a : ByteArray) (n : Int) (ws : List AV) (k : Int) (es rs : List AV) : L R16 197 [.rsl 1 es false, .fn (.func 200) [] [.rptr [.rsl 7 ps false, .rsl 3 fs false, .rsl 5 cs false, .rsl 3 ts false, iA d, iA u], .rptr [sA a, iA n, .rsl 1 ws false], .rptr [iA k]]] [.loop 0 [1, 5, 8, 9, 10] [] [5] [] (.exit 0) [.rsl 1 rs false] []] [.l 22 197 0 22 [.fn (Fn.func 200) [] [.rptr [.rsl 7 ps false, .rsl 3 fs false, .rsl 5 cs false, .rsl 3 ts false, iA d, iA u], .rptr [sA a, iA n, .rsl 1 ws false], .rptr [iA k]], .v (.slice none 0 0), .rsl 1 es false, iA (Int.ofNat es.length), iA 0] []] (.rsl 1 rs false) := kR (by kernel_rfl)
def orG (G1 G2 : List AV → Option AV) : List AV → Option AV := fun l => match G1 l with
 | some r => some r
 | none => G2 l
theorem holds_or {f : FuncId} {G1 G2 : List AV → Option AV} (h1 : Holds f G1) (h2 : Holds f G2) : Holds f (orG G1 G2) := fun l r hr => by
 unfold orG at hr
 cases hg : G1 l with
 | some x => rw [hg] at hr; simp only [Option.some.injEq] at hr; subst hr; exact h1 l x hg
 | none => rw [hg] at hr; exact h2 l r hr
theorem or_r {G1 G2 : List AV → Option AV} {l : List AV} {r : AV} (h0 : G1 l = none) (h : G2 l = some r) : orG G1 G2 l = some r := by unfold orG; rw [h0]; exact h
theorem clo_ne {α β : Type} {A : Cod α} {R : RC β} {f g : FuncId} {F : α → β → Option AV} {a : AV} {l : List AV} (h : Nat.beq g f = false) : sp2 A (cloR f R) F [a, .fn (.func g) [] l] = none := by
 have hd : (cloR f R).dec (.fn (.func g) [] l) = none := by
  show (bif Nat.beq g f then R.decs l else none) = none
  rw [h]; rfl
 simp only [sp2, hd]
 cases A.dec a <;> rfl
theorem spNm200 {x : Lb} (t : Ts) (i : Int) (p : ByteArray) (h : in200 x i = true) : nm200G [sA p, lbRA x, tsRA t, .rptr [iA i]] = some (sA (stM x p t.2.1 (x.2.2.2.1.take i.toNat))) := by
 have := sp4_at (A := strC) (B := rptrR labR) (D := rptrR tsR) (E := rptrC intC) (F := fun p x t i => bif in200 x i then some (sA (stM x p t.2.1 (x.2.2.2.1.take i.toNat))) else none) p x t i
 rw [h] at this; exact this
def mq197G : List AV → Option AV := sp2 strsC (cloR 200 (RC.cons (rptrR labR) (RC.cons (rptrR tsR) (RC.one (rptrC intC))))) fun l q => bif in200 q.1 q.2.2 && Nat.ble l.length lim then some (slA strC 1 (l.map (fun p => stM q.1 p q.2.1.2.1 (q.1.2.2.2.1.take q.2.2.toNat)))) else none
set_option maxRecDepth 20000 in
theorem h197q : Holds 197 mq197G := holds2 fun l q r hr => by
 cases hb : in200 q.1 q.2.2 && Nat.ble l.length lim with
 | false => simp [hb] at hr
 | true =>
  simp only [hb, cond_true, Option.some.injEq] at hr; subst hr
  rw [Bool.and_eq_true] at hb
  obtain ⟨hok, hlim0⟩ := hb
  have hlim := Nat.le_of_ble_eq_true hlim0
  have hl := limTwo hlim
  have e := e_st l
  have h := LoopRun.builds (C := CS R16) (nt := 22) (rd := false) (c := lO (CS R16) 197 0) strC.enc closedStr (fun p => stM q.1 p q.2.1.2.1 (q.1.2.2.2.1.take q.2.2.toNat)) 19 1 [1, 5, 8, 9, 10] 22 (fun i a => [.fn (.func 200) [] [lbRA q.1, tsRA q.2.1, .rptr [iA q.2.2]], a, .rsl 1 (l.map strC.enc) false, iA (Int.ofNat l.length), iA (Int.ofNat i)]) l (.exit 0) 5 (by simp)
   (fun i x hx => by
    have hi := lt_len hx
    have hr := s197a (q.1.1.map ptC.enc) (q.1.2.1.map ftC.enc) (q.1.2.2.1.map cbC.enc) (q.1.2.2.2.1.map tsC.enc) q.1.2.2.2.2.1 q.1.2.2.2.2.2 q.2.1.1 q.2.1.2.1 (q.2.1.2.2.map strC.enc) q.2.2 (l.map strC.enc) l.length i x ((fun p => stM q.1 p q.2.1.2.1 (q.1.2.2.2.1.take q.2.2.toNat)) x)
    rw [wrap_ix hi hl] at hr
    exact R16_ok.rndN hr ⟨lt_of hi, get_map _ hx, ⟨rfl, spNm200 q.2.1 q.2.2 x hok⟩, ⟨closedStr [_], trivial⟩, rfl⟩)
   (fun i x rs hx hrs => by
    have hi := lt_len hx
    have hr := s197b (q.1.1.map ptC.enc) (q.1.2.1.map ftC.enc) (q.1.2.2.1.map cbC.enc) (q.1.2.2.2.1.map tsC.enc) q.1.2.2.2.2.1 q.1.2.2.2.2.2 q.2.1.1 q.2.1.2.1 (q.2.1.2.2.map strC.enc) q.2.2 (l.map strC.enc) l.length i (rs.map strC.enc) (rs.map strC.enc).length x ((fun p => stM q.1 p q.2.1.2.1 (q.1.2.2.2.1.take q.2.2.toNat)) x)
    rw [wrap_ix hi hl] at hr
    have hlen : (rs.map strC.enc ++ [strC.enc ((fun p => stM q.1 p q.2.1.2.1 (q.1.2.2.2.1.take q.2.2.toNat)) x)]).length ≤ 1000001 := by rw [List.length_append, List.length_map]; unfold lim at hlim; simp; omega
    exact R16_ok.rndN hr ⟨lt_of hi, get_map _ hx, ⟨rfl, spNm200 q.2.1 q.2.2 x hok⟩, ⟨rfl, rfl, rfl, by show (rs.map strC.enc ++ [strC.enc ((fun p => stM q.1 p q.2.1.2.1 (q.1.2.2.2.1.take q.2.2.toNat)) x)]).length * 16 ≤ _; omega, by show (rs.map strC.enc ++ [strC.enc ((fun p => stM q.1 p q.2.1.2.1 (q.1.2.2.2.1.take q.2.2.toNat)) x)]).length ≤ _; omega, by decide⟩, ⟨(closedStr rs).append (closedStr [_]), trivial⟩, rfl⟩)
   (R16_ok.rndX (s197xa (q.1.1.map ptC.enc) (q.1.2.1.map ftC.enc) (q.1.2.2.1.map cbC.enc) (q.1.2.2.2.1.map tsC.enc) q.1.2.2.2.2.1 q.1.2.2.2.2.2 q.2.1.1 q.2.1.2.1 (q.2.1.2.2.map strC.enc) q.2.2 (l.map strC.enc) l.length l.length) ⟨lt_self _, trivial, rfl⟩)
   (fun rs => R16_ok.rndX (s197xb (q.1.1.map ptC.enc) (q.1.2.1.map ftC.enc) (q.1.2.2.1.map cbC.enc) (q.1.2.2.2.1.map tsC.enc) q.1.2.2.2.2.1 q.1.2.2.2.2.2 q.2.1.1 q.2.1.2.1 (q.2.1.2.2.map strC.enc) q.2.2 (l.map strC.enc) l.length l.length (rs.map strC.enc) (rs.map strC.enc).length) ⟨lt_self _, ⟨closedStr rs, trivial⟩, rfl⟩)
  rw [← e] at h
  exact R16_ok.tr (s197 (q.1.1.map ptC.enc) (q.1.2.1.map ftC.enc) (q.1.2.2.1.map cbC.enc) (q.1.2.2.2.1.map tsC.enc) q.1.2.2.2.2.1 q.1.2.2.2.2.2 q.2.1.1 q.2.1.2.1 (q.2.1.2.2.map strC.enc) q.2.2 (l.map strC.enc) ((l.map (fun p => stM q.1 p q.2.1.2.1 (q.1.2.2.2.1.take q.2.2.toNat))).map strC.enc)) ⟨⟨trivial, trivial, h.says⟩, rfl⟩
theorem spMq {x : Lb} (t : Ts) (i : Int) {l : List ByteArray} (h : in200 x i = true) (hl : Nat.ble l.length lim = true) : orG mp197G mq197G [slA strC 1 l, .fn (.func 200) [] [lbRA x, tsRA t, .rptr [iA i]]] = some (slA strC 1 (l.map fun p => stM x p t.2.1 (x.2.2.2.1.take i.toNat))) := or_r (clo_ne rfl) (by
 have := sp2_at (A := strsC) (B := cloR 200 (RC.cons (rptrR labR) (RC.cons (rptrR tsR) (RC.one (rptrC intC))))) (F := fun l q => bif in200 q.1 q.2.2 && Nat.ble l.length lim then some (slA strC 1 (l.map (fun p => stM q.1 p q.2.1.2.1 (q.1.2.2.2.1.take q.2.2.toNat)))) else none) l (x, t, i)
 rw [h, hl] at this; exact this)
noncomputable def R17 : Specs := (R16.set 197 (orG mp197G mq197G))
theorem R17_ok : Ok R17 := (R16_ok.set (holds_or h197 h197q))
end Go.Vm.S3

namespace Go.Vm.S3
open Go.Proofs Go.RowKit
set_option maxRecDepth 100000
variable (ps fs cs ts : List AV) (d u : Int)
set_option maxRecDepth 20000
theorem t134 (a : ByteArray) (n : Int) (ws : List AV) (k : Nat) (rs : List AV) : L R17 134 [lbE ps fs cs ts d u, iA (Int.ofNat k)] [.chk [.agg [sA a, iA n, .rsl 1 ws false]], .sp [.rsl 1 ws false, .fn (.func 200) [] [.rptr [.rsl 7 ps false, .rsl 3 fs false, .rsl 5 cs false, .rsl 3 ts false, iA d, iA u], .rptr [sA a, iA n, .rsl 1 ws false], .rptr [iA (Int.ofNat k)]]] (.rsl 1 rs false)] [.g ts k, .f 197] (.rsl 1 rs false) := kR (by kernel_rfl)
theorem t136 (a : ByteArray) (n : Int) (ws : List AV) (k : Nat) (s : ByteArray) (rs : List AV) (q : Bool) : L R17 136 [iA (Int.ofNat k), .rptr [.rsl 7 ps false, .rsl 3 fs false, .rsl 5 cs false, .rsl 3 ts false, iA d, iA u], .rptr [sA s]] [.chk [.agg [sA a, iA n, .rsl 1 ws false]], .sp [lbE ps fs cs ts d u, .agg [sA a, iA n, .rsl 1 ws false]] (.rsl 1 rs false), .sp [.rsl 1 rs false, sA s] (bA q)] [.g ts k, .f 133, .f 137] (bA q) := kR (by kernel_rfl)
theorem in200_at {x : Lb} {k : Nat} (hok : okLb x = true) (hz : labM x = 0) (h : k ≤ x.2.2.2.1.length) : in200 x (Int.ofNat k) = true := by
 unfold in200
 rw [hok, decide_eq_true hz, show decide ((0 : Int) ≤ Int.ofNat k) = true from decide_eq_true (by simp), show (Int.ofNat k).toNat = k from rfl, decide_eq_true h]; rfl
theorem h134 : Holds 134 wrg57G := holds2 fun x i r hr => by
 cases hb : okLb x && (decide (labM x = 0) && (decide (0 ≤ i) && decide (i.toNat < x.2.2.2.1.length))) with
 | false => simp [hb] at hr
 | true =>
  simp only [hb, cond_true, Option.some.injEq] at hr; subst hr
  simp only [Bool.and_eq_true, decide_eq_true_eq] at hb
  obtain ⟨hok, hz, hi0, hi1⟩ := hb
  have hi : i = Int.ofNat i.toNat := by simp only [Int.ofNat_eq_natCast]; omega
  generalize hkk : i.toNat = k at hi hi1 ⊢
  subst hi
  have K := okLb_at hok
  have hg := tsAt_get hi1
  exact R17_ok.tr ((lx x t134) (tsAt x k).1 (tsAt x k).2.1 ((tsAt x k).2.2.map strC.enc) k ((wrgM x k).map strC.enc)) ⟨get_map tsC.enc hg, ⟨rfl, spMq (tsAt x k) (Int.ofNat k) (in200_at hok hz (Nat.le_of_lt hi1)) (K.ws _ (List.mem_of_getElem? hg))⟩, rfl⟩
def in136 (x : Lb) (i : Int) : Bool := okLb x && (decide (0 ≤ i) && decide (i.toNat < x.2.2.2.1.length))
def on136G : List AV → Option AV := sp3 intC (rptrR labR) (rptrC strC) fun i x s => bif in136 x i then some (bA (hasWordM (rstM x i.toNat) s)) else none
theorem rst_lim {x : Lb} {k : Nat} (h : okLb x = true) (hk : k < x.2.2.2.1.length) : (rstM x k).length ≤ lim := by
 have K := okLb_at h
 have hg := tsAt_get hk
 have := Nat.le_of_ble_eq_true (K.ws _ (List.mem_of_getElem? hg))
 unfold rstM; rw [List.length_map]; exact this
theorem h136 : Holds 136 on136G := holds3 fun i x s r hr => by
 cases hb : in136 x i with
 | false => simp [hb] at hr
 | true =>
  simp only [hb, cond_true, Option.some.injEq] at hr; subst hr
  unfold in136 at hb
  simp only [Bool.and_eq_true, decide_eq_true_eq] at hb
  obtain ⟨hok, hi0, hi1⟩ := hb
  have hi : i = Int.ofNat i.toNat := by simp only [Int.ofNat_eq_natCast]; omega
  generalize hkk : i.toNat = k at hi hi1 ⊢
  subst hi
  have K := okLb_at hok
  have hg := tsAt_get hi1
  exact R17_ok.tr ((lx x t136) (tsAt x k).1 (tsAt x k).2.1 ((tsAt x k).2.2.map strC.enc) k s ((rstM x k).map strC.enc) _) ⟨get_map tsC.enc hg, ⟨rfl, spRe hok (K.ws _ (List.mem_of_getElem? hg))⟩, ⟨rfl, spHw s (blt_lim (rst_lim hok hi1))⟩, rfl⟩
noncomputable def R18 : Specs := ((R17.set 134 wrg57G).set 136 on136G)
theorem R18_ok : Ok R18 := ((R17_ok.set h134).set h136)
end Go.Vm.S3

namespace Go.Vm.S3
open Go.Proofs Go.RowKit
set_option maxRecDepth 100000
variable (ps fs cs ts : List AV) (d u : Int)
set_option maxRecDepth 20000
theorem t53a (s : ByteArray) (i e : Int) : L R18 53 [lbE ps fs cs ts d u, sA s] [.sp [lbE ps fs cs ts d u, sA s] (.tup [iA i, iA e]), .as 15 true] [.f 132, .b (e != 0)] (.tup [.v (.slice none 0 0), iA e]) := kR (by kernel_rfl)
theorem t53b (s : ByteArray) (i e : Int) (rs : List AV) : L R18 53 [lbE ps fs cs ts d u, sA s] [.sp [lbE ps fs cs ts d u, sA s] (.tup [iA i, iA e]), .as 15 false, .sp [lbE ps fs cs ts d u, iA i] (.rsl 1 rs false)] [.f 132, .b (e != 0), .f 134] (.tup [.rsl 1 rs false, iA 0]) := kR (by kernel_rfl)
theorem t52a (s : ByteArray) (i e : Int) : L R18 52 [lbE ps fs cs ts d u, sA s] [.sp [lbE ps fs cs ts d u, sA s] (.tup [iA i, iA e]), .as 15 true] [.f 132, .b (e != 0)] (.tup [.v (.slice none 0 0), iA e]) := kR (by kernel_rfl)
theorem t52b (a : ByteArray) (n : Int) (ws : List AV) (s : ByteArray) (i : Nat) (e : Int) (rs : List AV) : L R18 52 [lbE ps fs cs ts d u, sA s] [.sp [lbE ps fs cs ts d u, sA s] (.tup [iA (Int.ofNat i), iA e]), .as 15 false, .chk [.agg [sA a, iA n, .rsl 1 ws false]], .sp [lbE ps fs cs ts d u, .agg [sA a, iA n, .rsl 1 ws false]] (.rsl 1 rs false)] [.f 132, .b (e != 0), .g ts i, .f 133] (.tup [.rsl 1 rs false, iA 0]) := kR (by kernel_rfl)
theorem spWrg {x : Lb} {k : Nat} (h : okLb x = true) (hz : labM x = 0) (hk : k < x.2.2.2.1.length) : wrg57G [lbA x, iA (Int.ofNat k)] = some (slA strC 1 (wrgM x k)) := by
 have := sp2_at (A := labC) (B := intC) (F := fun x i => bif okLb x && (decide (labM x = 0) && (decide (0 ≤ i) && decide (i.toNat < x.2.2.2.1.length))) then some (slA strC 1 (wrgM x i.toNat)) else none) x (Int.ofNat k)
 rw [h, decide_eq_true hz, show decide ((0 : Int) ≤ Int.ofNat k) = true from decide_eq_true (by simp), show (Int.ofNat k).toNat = k from rfl, decide_eq_true hk] at this
 exact this
def rs52 (x : Lb) (s : ByteArray) : List ByteArray := bif ftM x s != 0 then [] else rstM x (tIx x s)
def wr53 (x : Lb) (s : ByteArray) : List ByteArray := bif ftM x s != 0 then [] else wrgM x (tIx x s)
def rs52G : List AV → Option AV := sp2 labC strC fun x s => bif okLb x then some (.tup [slA strC 1 (rs52 x s), iA (ftM x s)]) else none
def wr53G : List AV → Option AV := sp2 labC strC fun x s => bif okLb x then some (.tup [slA strC 1 (wr53 x s), iA (ftM x s)]) else none
theorem tup_nil {e : Int} : Weak (.tup [.v (.slice none 0 0), iA e]) (.tup [.rsl 1 [] false, iA e]) := Weak.tup (WeakL.cons Weak.nilSl (WeakL.cons Weak.rfl WeakL.nil))
theorem ftI_zero {x : Lb} {s : ByteArray} (h : ftM x s = 0) : ftI x s = Int.ofNat (tIx x s) := by
 obtain ⟨hz, hf⟩ := ftM_zero h
 unfold ftI
 rw [hz]
 exact (findT_ge hf).2.1
theorem h53 : Holds 53 wr53G := holds2 fun x s r hr => by
 cases hb : okLb x with
 | false => simp [hb] at hr
 | true =>
  simp only [hb, cond_true, Option.some.injEq] at hr; subst hr
  unfold wr53
  cases he : ftM x s != 0 with
  | true => exact Comp.weak (R18_ok.tr ((lx x t53a) s _ _) ⟨⟨rfl, spFt s hb⟩, he, rfl⟩) WeakL.rfl tup_nil
  | false =>
   have h0 : ftM x s = 0 := by simpa using he
   have hs := spFt s hb
   obtain ⟨hz, hf⟩ := ftM_zero h0
   have hw := spWrg hb hz (findT_ge hf).1
   rw [← ftI_zero h0] at hw
   have := R18_ok.tr ((lx x t53b) s (ftI x s) (ftM x s) _) ⟨⟨rfl, hs⟩, he, ⟨rfl, hw⟩, rfl⟩
   rw [h0]; exact this
theorem h52 : Holds 52 rs52G := holds2 fun x s r hr => by
 cases hb : okLb x with
 | false => simp [hb] at hr
 | true =>
  simp only [hb, cond_true, Option.some.injEq] at hr; subst hr
  unfold rs52
  cases he : ftM x s != 0 with
  | true => exact Comp.weak (R18_ok.tr ((lx x t52a) s _ _) ⟨⟨rfl, spFt s hb⟩, he, rfl⟩) WeakL.rfl tup_nil
  | false =>
   have h0 : ftM x s = 0 := by simpa using he
   have hs := spFt s hb
   rw [ftI_zero h0] at hs
   have K := okLb_at hb
   have hg := tsAt_get (findT_ge (ftM_zero h0).2).1
   have := R18_ok.tr ((lx x t52b) (tsAt x (tIx x s)).1 (tsAt x (tIx x s)).2.1 ((tsAt x (tIx x s)).2.2.map strC.enc) s (tIx x s) (ftM x s) _) ⟨⟨rfl, hs⟩, he, get_map tsC.enc hg, ⟨rfl, spRe hb (K.ws _ (List.mem_of_getElem? hg))⟩, rfl⟩
   rw [h0]; exact this
noncomputable def R19 : Specs := ((R18.set 53 wr53G).set 52 rs52G)
theorem R19_ok : Ok R19 := ((R18_ok.set h53).set h52)
end Go.Vm.S3

namespace Go.Vm.S3
open Go.Proofs Go.RowKit
set_option maxRecDepth 100000
variable (ps fs cs ts : List AV) (d u : Int)
set_option maxRecDepth 20000
theorem u135na (s : ByteArray) (es : List AV) (l i : Nat) (q : Bool) (a : ByteArray) (n : Int) (ws : List AV) : Lr R19 135 33 0 [1, 7, 16, 17, 18] [] [1, 7, 16, 17, 18] [] [7] [] [.fn (.func 136) [] [.rptr [.rsl 7 ps false, .rsl 3 fs false, .rsl 5 cs false, .rsl 3 ts false, iA d, iA u], .rptr [sA s]], nilS, .rsl 3 es false, iA (Int.ofNat l), iA (Int.ofNat i)] [] [.as 19 true, .chk [.agg [sA a, iA n, .rsl 1 ws false]], .sp [iA (Int.ofNat i), .rptr [.rsl 7 ps false, .rsl 3 fs false, .rsl 5 cs false, .rsl 3 ts false, iA d, iA u], .rptr [sA s]] (bA q), .as 25 false] [.t i l, .g es i, .f 136, .b q] .nrm [.fn (Fn.func 136) [] [.rptr [.rsl 7 ps false, .rsl 3 fs false, .rsl 5 cs false, .rsl 3 ts false, iA d, iA u], .rptr [sA s]], .v (.slice none 0 0), .rsl 3 es false, iA (Int.ofNat l), iA (IntKind.i64.wrap (Int.ofNat i + 1))] [] := kN (by kernel_rfl)
theorem u135ya (s : ByteArray) (es : List AV) (l i : Nat) (q : Bool) (a : ByteArray) (n : Int) (ws : List AV) : Lr R19 135 33 0 [1, 7, 16, 17, 18] [] [1, 7, 16, 17, 18] [30] [7] [] [.fn (.func 136) [] [.rptr [.rsl 7 ps false, .rsl 3 fs false, .rsl 5 cs false, .rsl 3 ts false, iA d, iA u], .rptr [sA s]], nilS, .rsl 3 es false, iA (Int.ofNat l), iA (Int.ofNat i)] [] [.as 19 true, .chk [.agg [sA a, iA n, .rsl 1 ws false]], .sp [iA (Int.ofNat i), .rptr [.rsl 7 ps false, .rsl 3 fs false, .rsl 5 cs false, .rsl 3 ts false, iA d, iA u], .rptr [sA s]] (bA q), .as 25 true] [.t i l, .g es i, .f 136, .b q] .nrm [.fn (Fn.func 136) [] [.rptr [.rsl 7 ps false, .rsl 3 fs false, .rsl 5 cs false, .rsl 3 ts false, iA d, iA u], .rptr [sA s]], .sl 30 0 1 0 1, .rsl 3 es false, iA (Int.ofNat l), iA (IntKind.i64.wrap (Int.ofNat i + 1))] [(false, .arr 1 [sA a] false)] := kN (by kernel_rfl)
theorem u135xa (s : ByteArray) (es : List AV) (l i : Nat) : Lr R19 135 33 0 [1, 7, 16, 17, 18] [] [1, 7, 16, 17, 18] [] [7] [] [.fn (.func 136) [] [.rptr [.rsl 7 ps false, .rsl 3 fs false, .rsl 5 cs false, .rsl 3 ts false, iA d, iA u], .rptr [sA s]], nilS, .rsl 3 es false, iA (Int.ofNat l), iA (Int.ofNat i)] [] [.as 19 false] [.t i l] (.exit 0) [.v (.slice none 0 0)] [] := kN (by kernel_rfl)
abbrev cR20_16 (ps fs cs ts : List AV) (d u : Int) (s : ByteArray) (es : List AV) (l i : Nat) (rs : List AV) (m : Nat) (q : Bool) (a : ByteArray) (n : Int) (ws : List AV) (h9 : List Hn) (a9 : List An) (x9 : Ex) (v9 : List AV) (e9 : List (Bool × Blk)) : Prop := Lr R19 135 33 0 [1, 7, 16, 17, 18] [30] [1, 7, 16, 17, 18] [30] [7] [30] [.fn (.func 136) [] [.rptr [.rsl 7 ps false, .rsl 3 fs false, .rsl 5 cs false, .rsl 3 ts false, iA d, iA u], .rptr [sA s]], .sl 30 0 1 0 m, .rsl 3 es false, iA (Int.ofNat l), iA (Int.ofNat i)] [(false, .arr 1 rs false)] ([.as 19 true, .chk [.agg [sA a, iA n, .rsl 1 ws false]], .sp [iA (Int.ofNat i), .rptr [.rsl 7 ps false, .rsl 3 fs false, .rsl 5 cs false, .rsl 3 ts false, iA d, iA u], .rptr [sA s]] (bA q)] ++ h9) ([.t i l, .g es i, .f 136] ++ a9) x9 v9 e9
theorem u135nb (s : ByteArray) (es : List AV) (l i : Nat) (rs : List AV) (m : Nat) (q : Bool) (a : ByteArray) (n : Int) (ws : List AV) : cR20_16 ps fs cs ts d u s es l i rs m q a n ws [.as 25 false] [.b q] .nrm [.fn (Fn.func 136) [] [.rptr [.rsl 7 ps false, .rsl 3 fs false, .rsl 5 cs false, .rsl 3 ts false, iA d, iA u], .rptr [sA s]], .sl 30 0 1 0 m, .rsl 3 es false, iA (Int.ofNat l), iA (IntKind.i64.wrap (Int.ofNat i + 1))] [(false, .arr 1 rs false)] := kN (by kernel_rfl)
theorem u135yb (s : ByteArray) (es : List AV) (l i : Nat) (rs : List AV) (m : Nat) (q : Bool) (a : ByteArray) (n : Int) (ws : List AV) : cR20_16 ps fs cs ts d u s es l i rs m q a n ws [.as 25 true, .chk rs] [.b q, .k (apn m rs 1 [sA a] 16)] .nrm [.fn (Fn.func 136) [] [.rptr [.rsl 7 ps false, .rsl 3 fs false, .rsl 5 cs false, .rsl 3 ts false, iA d, iA u], .rptr [sA s]], .sl 30 0 1 0 ((rs ++ ([sA a] : List AV)).length), .rsl 3 es false, iA (Int.ofNat l), iA (IntKind.i64.wrap (Int.ofNat i + 1))] [(false, .arr 1 (rs ++ ([sA a] : List AV)) false)] := kN (by kernel_rfl)
theorem u135xb (s : ByteArray) (es : List AV) (l i : Nat) (rs : List AV) (m : Nat) : Lr R19 135 33 0 [1, 7, 16, 17, 18] [30] [1, 7, 16, 17, 18] [30] [7] [30] [.fn (.func 136) [] [.rptr [.rsl 7 ps false, .rsl 3 fs false, .rsl 5 cs false, .rsl 3 ts false, iA d, iA u], .rptr [sA s]], .sl 30 0 1 0 m, .rsl 3 es false, iA (Int.ofNat l), iA (Int.ofNat i)] [(false, .arr 1 rs false)] [.as 19 false] [.t i l] (.exit 0) [.sl 30 0 1 0 m] [(false, .arr 1 rs false)] := kN (by kernel_rfl)
theorem u135ta (s : ByteArray) (e : Int) : L R19 135 [lbE ps fs cs ts d u, .fn (.func 136) [] [.rptr [.rsl 7 ps false, .rsl 3 fs false, .rsl 5 cs false, .rsl 3 ts false, iA d, iA u], .rptr [sA s]]] [.sp [lbE ps fs cs ts d u] (iA e), .as 13 true] [.f 49, .b (e != 0)] (.tup [.v (.slice none 0 0), iA e]) := kR (by kernel_rfl)
theorem u135tb (s : ByteArray) (e : Int) (rs : List AV) : L R19 135 [lbE ps fs cs ts d u, .fn (.func 136) [] [.rptr [.rsl 7 ps false, .rsl 3 fs false, .rsl 5 cs false, .rsl 3 ts false, iA d, iA u], .rptr [sA s]]] [.sp [lbE ps fs cs ts d u] (iA e), .as 13 false, .loop 0 [1, 7, 16, 17, 18] [] [7] [] (.exit 0) [.rsl 1 rs false] []] [.f 49, .b (e != 0), .l 33 135 0 33 [.fn (Fn.func 136) [] [.rptr [.rsl 7 ps false, .rsl 3 fs false, .rsl 5 cs false, .rsl 3 ts false, iA d, iA u], .rptr [sA s]], .v (.slice none 0 0), .rsl 3 ts false, iA (Int.ofNat ts.length), iA 0] []] (.tup [.rsl 1 rs false, iA 0]) := kR (by kernel_rfl)
def chG (g : Nat → Bool) (i : Nat) (t : Ts) : List ByteArray := bif g i then [t.1] else []
def chM (x : Lb) (g : Nat → Bool) : List ByteArray := gath (chG g) 0 x.2.2.2.1
def ch135 (x : Lb) (g : Nat → Bool) : List ByteArray := bif labM x != 0 then [] else chM x g
theorem chG_le (g : Nat → Bool) : ∀ i t, (chG g i t).length ≤ 1 := fun i t => by unfold chG; cases g i <;> simp
theorem chG_no {g : Nat → Bool} {i : Nat} {t : Ts} (h : chG g i t = []) : g i = false := by
 unfold chG at h
 cases hq : g i with
 | false => rfl
 | true => rw [hq] at h; cases h
theorem chG_yes {g : Nat → Bool} {i : Nat} {t : Ts} {y : ByteArray} (h : chG g i t = [y]) : g i = true ∧ y = t.1 := by
 unfold chG at h
 cases hq : g i with
 | false => rw [hq] at h; cases h
 | true => rw [hq] at h; simp only [cond_true, List.cons.injEq, and_true] at h; exact ⟨rfl, h.symm⟩
theorem sp136 {x : Lb} {k : Nat} (s : ByteArray) (h : okLb x = true) (hk : k < x.2.2.2.1.length) : on136G [iA (Int.ofNat k), lbRA x, .rptr [sA s]] = some (bA (hasWordM (rstM x k) s)) := by
 have := sp3_at (A := intC) (B := rptrR labR) (D := rptrC strC) (F := fun i x s => bif in136 x i then some (bA (hasWordM (rstM x i.toNat) s)) else none) (Int.ofNat k) x s
 rw [show in136 x (Int.ofNat k) = true by unfold in136; rw [h, show decide ((0 : Int) ≤ Int.ofNat k) = true from decide_eq_true (by simp), show (Int.ofNat k).toNat = k from rfl, decide_eq_true hk]; rfl] at this
 exact this
theorem u135_run (x : Lb) (s : ByteArray) (hb : okLb x = true) (_hz : labM x = 0) :
  LoopRun (CS R19) 0 33 false (lO (CS R19) 135 0) (mkSt [1, 7, 16, 17, 18] [] 33 [.fn (.func 136) [] [lbRA x, .rptr [sA s]], nilS, .rsl 3 (x.2.2.2.1.map tsC.enc) false, iA (Int.ofNat x.2.2.2.1.length), iA 0] []) (.exit 0) (mkSt [7] [] 33 [.rsl 1 ((chM x (fun i => hasWordM (rstM x i) s)).map strC.enc) false] []) := by
 have K := okLb_at hb
 have hlim := K.ts
 have hl := limTwo hlim
 exact LoopRun.pushes (C := CS R19) (p := 0) (nt := 33) (rd := false) (c := lO (CS R19) 135 0) strC.enc (chG (fun i => hasWordM (rstM x i) s)) (chG_le _) (key := 30) (sz := 1) (ts := [1, 7, 16, 17, 18]) (ks := []) (fun i a => [.fn (.func 136) [] [lbRA x, .rptr [sA s]], a, .rsl 3 (x.2.2.2.1.map tsC.enc) false, iA (Int.ofNat x.2.2.2.1.length), iA (Int.ofNat i)]) (fun _ => [])
   (nf := 33) (ts2 := [7]) (fun a => [a]) (ex := .exit 0) x.2.2.2.1 (by simp) (by decide) (by decide) (fun _ => rfl) (fun _ => rfl)
   (fun es n hn => .cons (FzS.sl hn) .nil) (fun es n hn => .nil) (.cons Weak.nilSl .nil) .nil
   (fun i t ht hg => by
    have hi := lt_len ht
    have f := sp136 (x := x) s hb hi
    rw [chG_no hg] at f
    have hr := u135na (x.1.map ptC.enc) (x.2.1.map ftC.enc) (x.2.2.1.map cbC.enc) (x.2.2.2.1.map tsC.enc) x.2.2.2.2.1 x.2.2.2.2.2 s (x.2.2.2.1.map tsC.enc) x.2.2.2.1.length i false t.1 t.2.1 (t.2.2.map strC.enc)
    rw [wrap_ix hi hl] at hr
    exact R19_ok.rndN hr ⟨lt_of hi, get_map tsC.enc ht, ⟨rfl, f⟩, rfl, trivial, rfl⟩)
   (fun i t rs ht hg hc => by
    have hi := lt_len ht
    have f := sp136 (x := x) s hb hi
    rw [chG_no hg] at f
    have hr := u135nb (x.1.map ptC.enc) (x.2.1.map ftC.enc) (x.2.2.1.map cbC.enc) (x.2.2.2.1.map tsC.enc) x.2.2.2.2.1 x.2.2.2.2.2 s (x.2.2.2.1.map tsC.enc) x.2.2.2.1.length i rs rs.length false t.1 t.2.1 (t.2.2.map strC.enc)
    rw [wrap_ix hi hl] at hr
    exact R19_ok.rndN hr ⟨lt_of hi, get_map tsC.enc ht, ⟨rfl, f⟩, rfl, ⟨hc, trivial⟩, rfl⟩)
   (fun i t y ht hg => by
    have hi := lt_len ht
    obtain ⟨h1, rfl⟩ := chG_yes hg
    have f := sp136 (x := x) s hb hi
    rw [h1] at f
    have hr := u135ya (x.1.map ptC.enc) (x.2.1.map ftC.enc) (x.2.2.1.map cbC.enc) (x.2.2.2.1.map tsC.enc) x.2.2.2.2.1 x.2.2.2.2.2 s (x.2.2.2.1.map tsC.enc) x.2.2.2.1.length i true t.1 t.2.1 (t.2.2.map strC.enc)
    rw [wrap_ix hi hl] at hr
    exact R19_ok.rndN hr ⟨lt_of hi, get_map tsC.enc ht, ⟨rfl, f⟩, rfl, ⟨closedStr [t.1], trivial⟩, rfl⟩)
   (fun i t y rs ht hg hc hrs => by
    have hi := lt_len ht
    obtain ⟨h1, rfl⟩ := chG_yes hg
    have f := sp136 (x := x) s hb hi
    rw [h1] at f
    have hlen : (rs ++ [strC.enc t.1]).length ≤ 1000001 := by rw [List.length_append]; unfold lim at hlim; simp; omega
    have hr := u135yb (x.1.map ptC.enc) (x.2.1.map ftC.enc) (x.2.2.1.map cbC.enc) (x.2.2.2.1.map tsC.enc) x.2.2.2.2.1 x.2.2.2.2.2 s (x.2.2.2.1.map tsC.enc) x.2.2.2.1.length i rs rs.length true t.1 t.2.1 (t.2.2.map strC.enc)
    rw [wrap_ix hi hl] at hr
    exact R19_ok.rndN hr ⟨lt_of hi, get_map tsC.enc ht, ⟨rfl, f⟩, rfl, ⟨rfl, rfl, rfl, by show (rs ++ [strC.enc t.1]).length * 16 ≤ _; omega, by show (rs ++ [strC.enc t.1]).length ≤ _; omega, by decide⟩, ⟨hc.append (closedStr [t.1]), trivial⟩, rfl⟩)
   (R19_ok.rndX (u135xa (x.1.map ptC.enc) (x.2.1.map ftC.enc) (x.2.2.1.map cbC.enc) (x.2.2.2.1.map tsC.enc) x.2.2.2.2.1 x.2.2.2.2.2 s (x.2.2.2.1.map tsC.enc) x.2.2.2.1.length x.2.2.2.1.length) ⟨lt_self _, trivial, rfl⟩)
   (fun rs hc => R19_ok.rndX (u135xb (x.1.map ptC.enc) (x.2.1.map ftC.enc) (x.2.2.1.map cbC.enc) (x.2.2.2.1.map tsC.enc) x.2.2.2.2.1 x.2.2.2.2.2 s (x.2.2.2.1.map tsC.enc) x.2.2.2.1.length x.2.2.2.1.length rs rs.length) ⟨lt_self _, ⟨hc, trivial⟩, rfl⟩)
theorem u135_cmp (x : Lb) (s : ByteArray) (hb : okLb x = true) : Cmp 135 [lbA x, .fn (.func 136) [] [lbRA x, .rptr [sA s]]] (.tup [slA strC 1 (ch135 x (fun i => hasWordM (rstM x i) s)), iA (labM x)]) := by
 unfold ch135
 cases he : labM x != 0 with
 | true => exact Comp.weak (R19_ok.tr (u135ta (x.1.map ptC.enc) (x.2.1.map ftC.enc) (x.2.2.1.map cbC.enc) (x.2.2.2.1.map tsC.enc) x.2.2.2.2.1 x.2.2.2.2.2 s (labM x)) ⟨⟨rfl, spLab hb⟩, he, rfl⟩) WeakL.rfl tup_nil
 | false =>
  have hz : labM x = 0 := by simpa using he
  have h := u135_run x s hb hz
  rw [← e_ts x.2.2.2.1] at h
  have := R19_ok.tr (u135tb (x.1.map ptC.enc) (x.2.1.map ftC.enc) (x.2.2.1.map cbC.enc) (x.2.2.2.1.map tsC.enc) x.2.2.2.2.1 x.2.2.2.2.2 s (labM x) ((chM x (fun i => hasWordM (rstM x i) s)).map strC.enc)) ⟨⟨rfl, spLab hb⟩, he, ⟨trivial, trivial, h.says⟩, rfl⟩
  rw [hz]; exact this
noncomputable def ch136G : List AV → Option AV := sp2 labC (cloR 136 (RC.cons (rptrR labR) (RC.one (rptrC strC)))) fun x q => bif okLb x && eqC q.1 x then some (.tup [slA strC 1 (ch135 x fun i => hasWordM (rstM x i) q.2), iA (labM x)]) else none
theorem h135u : Holds 135 ch136G := holds2 fun x q r hr => by
 cases hb : okLb x && eqC q.1 x with
 | false => simp [hb] at hr
 | true =>
  simp only [hb, cond_true, Option.some.injEq] at hr; subst hr
  rw [Bool.and_eq_true] at hb
  obtain ⟨y, s⟩ := q
  have e : y = x := eqC_of hb.2
  subst e
  exact u135_cmp y s hb.1
noncomputable def R20 : Specs := (R19.set 135 ch136G)
theorem R20_ok : Ok R20 := (R19_ok.set h135u)
end Go.Vm.S3

namespace Go.Vm.S3
open Go.Proofs Go.RowKit
set_option maxRecDepth 100000
variable (ps fs cs ts : List AV) (d u : Int)
set_option maxRecDepth 20000
theorem t54a (s : ByteArray) (i e : Int) : L R20 54 [lbE ps fs cs ts d u, sA s] [.sp [lbE ps fs cs ts d u, sA s] (.tup [iA i, iA e]), .as 15 true] [.f 114, .b (e != 0)] (.tup [.v (.slice none 0 0), iA e]) := kR (by kernel_rfl)
theorem t54b (s : ByteArray) (i e e2 : Int) (rs : List AV) : L R20 54 [lbE ps fs cs ts d u, sA s] [.sp [lbE ps fs cs ts d u, sA s] (.tup [iA i, iA e]), .as 15 false, .sp [lbE ps fs cs ts d u, .fn (.func 136) [] [.rptr [.rsl 7 ps false, .rsl 3 fs false, .rsl 5 cs false, .rsl 3 ts false, iA d, iA u], .rptr [sA s]]] (.tup [.rsl 1 rs false, iA e2])] [.f 114, .b (e != 0), .f 135] (.tup [.rsl 1 rs false, iA e2]) := kR (by kernel_rfl)
theorem spCh136 {x : Lb} (s : ByteArray) (h : okLb x = true) : ch136G [lbA x, .fn (.func 136) [] [lbRA x, .rptr [sA s]]] = some (.tup [slA strC 1 (ch135 x fun i => hasWordM (rstM x i) s), iA (labM x)]) := by
 have := sp2_at (A := labC) (B := cloR 136 (RC.cons (rptrR labR) (RC.one (rptrC strC)))) (F := fun x q => bif okLb x && eqC q.1 x then some (.tup [slA strC 1 (ch135 x fun i => hasWordM (rstM x i) q.2), iA (labM x)]) else none) x (x, s)
 rw [h, eqC_self] at this; exact this
theorem rea_ch (x : Lb) (s : ByteArray) : reaM x s = chM x fun i => hasWordM (rstM x i) s := rfl
def wd54 (x : Lb) (s : ByteArray) : List ByteArray := bif fcM x s != 0 then [] else reaM x s
def wd54G : List AV → Option AV := sp2 labC strC fun x s => bif okLb x then some (.tup [slA strC 1 (wd54 x s), iA (fcM x s)]) else none
theorem h54 : Holds 54 wd54G := holds2 fun x s r hr => by
 cases hb : okLb x with
 | false => simp [hb] at hr
 | true =>
  simp only [hb, cond_true, Option.some.injEq] at hr; subst hr
  unfold wd54
  cases he : fcM x s != 0 with
  | true => exact Comp.weak (R20_ok.tr ((lx x t54a) s _ _) ⟨⟨rfl, spFc s hb⟩, he, rfl⟩) WeakL.rfl tup_nil
  | false =>
   have h0 : fcM x s = 0 := by simpa using he
   have hz := (fcM_zero h0).1
   have hs := spCh136 s hb
   unfold ch135 at hs
   rw [hz] at hs
   have := R20_ok.tr ((lx x t54b) s (fcI x s) (fcM x s) 0 _) ⟨⟨rfl, spFc s hb⟩, he, ⟨rfl, hs⟩, rfl⟩
   rw [h0]; exact this
noncomputable def R21 : Specs := (R20.set 54 wd54G)
theorem R21_ok : Ok R21 := (R20_ok.set h54)
end Go.Vm.S3

namespace Go.Vm.S3
open Go.Proofs Go.RowKit
set_option maxRecDepth 20000
theorem gath_le {α β : Type} {g : Nat → α → List β} (h : ∀ i x, (g i x).length ≤ 1) : ∀ (l : List α) (i : Nat), (gath g i l).length ≤ l.length
 | [], _ => Nat.le_refl _
 | x :: l, i => by
  unfold gath
  rw [List.length_append, List.length_cons]
  have := h i x
  have := gath_le h l (i + 1)
  omega
theorem wrg_lim {x : Lb} {k : Nat} (h : okLb x = true) (hk : k < x.2.2.2.1.length) : (wrgM x k).length ≤ lim := by
 have K := okLb_at h
 have hg := tsAt_get hk
 have := Nat.le_of_ble_eq_true (K.ws _ (List.mem_of_getElem? hg))
 unfold wrgM; rw [List.length_map]; exact this
theorem rea_lim {x : Lb} (s : ByteArray) (h : okLb x = true) : (reaM x s).length ≤ lim := Nat.le_trans (gath_le (chG_le _) _ _) (okLb_at h).ts
end Go.Vm.S3
