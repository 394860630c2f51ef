/- Tests: the calibration that counts, of the reference. -/
import Derived.Test.YtliikgffjphhjaaGreatDoorS3GL
namespace Go.Vm.S3
open Go.Proofs Go.RowKit
def calS (w s : ByteArray) (day : Int) (c : Cb) : Bool := bif nilB w then false else bif seq c.2.1 s then bif seq c.2.2.1 w then decide (c.2.2.2.1 ≤ day) else false else false
def calI (w s : ByteArray) (day : Int) (l : List Cb) : Int := goL (fun i (c : Cb) (o : Int) => (.inl (bif calS w s day c then Int.ofNat i else o) : Int ⊕ Int)) id 0 l (-1)
def cntM (x : Lb) (s : ByteArray) (day : Int) : Int := calI (specM x.2.1 s day) s day x.2.2.1
noncomputable def R1 : Specs := Q21
theorem R1_ok : Ok R1 := Q21_ok
end Go.Vm.S3

namespace Go.Vm.S3
open Go.Proofs Go.RowKit
def usedT (fs : List Ft) (w : ByteArray) (t : Ts) : Bool := t.2.2.any fun p => seq (specM fs p t.2.1) w
def cntU (fs : List Ft) (w : ByteArray) (fr : Int) (l : List Ts) : Int := l.foldl (fun m t => bif usedT fs w t && decide (t.2.1 ≥ fr) then m + 1 else m) 0
theorem addM1 (S : Specs) (x y : Operand) {m : Int} {n : Nat} (h0 : 0 ≤ m) (h : m < Int.ofNat n) (hn : n ≤ lim) : abin (CS S) BinOp.add 3 x y (AV.v (.int .i64 m)) (AV.v (.int .i64 1)) = some (AV.v (.int .i64 (m + 1))) := by
 show some (AV.v (.int .i64 (IntKind.i64.wrap (m + 1)))) = _
 unfold lim at hn
 simp only [Int.ofNat_eq_natCast] at h
 rw [wrap_in (by omega) (by omega)]
noncomputable def R2 : Specs := R1
theorem R2_ok : Ok R2 := R1_ok
end Go.Vm.S3

namespace Go.Vm.S3
open Go.Proofs Go.RowKit
theorem cal_at {w s : ByteArray} {day : Int} : ∀ (l : List Cb) (i : Nat) (o : Int), (goL (fun i (c : Cb) (o : Int) => (.inl (bif calS w s day c then Int.ofNat i else o) : Int ⊕ Int)) id i l o = o) ∨
  ∃ j c, l[j]? = some c ∧ calS w s day c = true ∧ goL (fun i (c : Cb) (o : Int) => (.inl (bif calS w s day c then Int.ofNat i else o) : Int ⊕ Int)) id i l o = Int.ofNat (i + j)
 | [], i, o => .inl rfl
 | c :: l, i, o => by
  unfold goL
  simp only
  rcases cal_at l (i + 1) (bif calS w s day c then Int.ofNat i else o) with h | ⟨j, c', h1, h2, h3⟩
  ·cases hc : calS w s day c with
   | false => rw [hc, cond_false] at h; exact .inl h
   | true => rw [hc, cond_true] at h; exact .inr ⟨0, c, rfl, hc, h⟩
  ·exact .inr ⟨j + 1, c', by rw [List.getElem?_cons_succ]; exact h1, h2, by rw [h3]; congr 1; omega⟩
theorem cnt_at (x : Lb) (s : ByteArray) (day : Int) : cntM x s day = -1 ∨ ∃ k, k < x.2.2.1.length ∧ cntM x s day = Int.ofNat k ∧ calS (specM x.2.1 s day) s day (cbAt x k) = true := by
 unfold cntM calI
 rcases cal_at (w := specM x.2.1 s day) (s := s) (day := day) x.2.2.1 0 (-1) with h | ⟨j, c, h1, h2, h3⟩
 ·exact .inl h
 ·refine .inr ⟨j, lt_len h1, by rw [h3, Nat.zero_add], ?_⟩
  have := cbAt_get (lt_len h1)
  rw [h1, Option.some.injEq] at this
  rw [← this]; exact h2
def sMissing : ByteArray := ⟨#[109, 105, 115, 115, 105, 110, 103]⟩
def sUncal : ByteArray := ⟨#[117, 110, 99, 97, 108, 105, 98, 114, 97, 116, 101, 100]⟩
def sFailed : ByteArray := ⟨#[102, 97, 105, 108, 101, 100]⟩
def sOld : ByteArray := ⟨#[111, 108, 100]⟩
def sWorn : ByteArray := ⟨#[119, 111, 114, 110]⟩
def wrongM (x : Lb) (w : ByteArray) (day : Int) (c : Cb) (l : List Ts) : ByteArray :=
 bif !goodM x.1 c then sFailed else bif decide (IntKind.i64.wrap (day - c.2.2.2.1) > x.2.2.2.2.1) then sOld else bif decide (cntU x.2.1 w c.2.2.2.1 l ≥ x.2.2.2.2.2) then sWorn else ⟨#[]⟩
def stM (x : Lb) (s : ByteArray) (day : Int) (l : List Ts) : ByteArray :=
 bif nilB (specM x.2.1 s day) then sMissing else bif decide (cntM x s day < 0) then sUncal else wrongM x (specM x.2.1 s day) day (cbAt x (cntM x s day).toNat) l
noncomputable def R3 : Specs := R2
theorem R3_ok : Ok R3 := R2_ok
end Go.Vm.S3

namespace Go.Vm.S3
open Go.Proofs Go.RowKit
def ts0 : Ts := (⟨#[]⟩, 0, [])
def tsAt (x : Lb) (k : Nat) : Ts := (x.2.2.2.1[k]?).getD ts0
theorem tsAt_get {x : Lb} {k : Nat} (h : k < x.2.2.2.1.length) : x.2.2.2.1[k]? = some (tsAt x k) := by
 unfold tsAt
 rw [List.getElem?_eq_getElem h]; rfl
def wrgM (x : Lb) (k : Nat) : List ByteArray := (tsAt x k).2.2.map fun p => stM x p (tsAt x k).2.1 (x.2.2.2.1.take k)
def wrg57G : List AV → Option AV := sp2 labC intC fun x i => bif okLb x && (decide (labM x = 0) && (decide (0 ≤ i) && decide (i.toNat < x.2.2.2.1.length))) then some (slA strC 1 (wrgM x i.toNat)) else none
theorem okTake {x : Lb} (h : okLb x = true) (k : Nat) : (Nat.ble (x.2.2.2.1.take k).length lim && (x.2.2.2.1.take k).all okT) = true := by
 have K := okLb_at h
 rw [Bool.and_eq_true, List.all_eq_true]
 refine ⟨Nat.ble_eq_true_of_le (by have := K.ts; rw [List.length_take]; omega), fun t ht => K.ws t (List.mem_of_mem_take ht)⟩
noncomputable def R4 : Specs := R3
theorem R4_ok : Ok R4 := R3_ok
end Go.Vm.S3

namespace Go.Vm.S3
open Go.Proofs Go.RowKit
def rstM1 (x : Lb) (day : Int) (p : ByteArray) : ByteArray := bif decide (cntM x p day < 0) then ⟨#[]⟩ else (cbAt x (cntM x p day).toNat).1
def rstM (x : Lb) (k : Nat) : List ByteArray := (tsAt x k).2.2.map (rstM1 x (tsAt x k).2.1)
noncomputable def R5 : Specs := R4
theorem R5_ok : Ok R5 := R4_ok
end Go.Vm.S3

namespace Go.Vm.S3
open Go.Proofs Go.RowKit
def reaG (x : Lb) (s : ByteArray) (i : Nat) (t : Ts) : List ByteArray := bif hasWordM (rstM x i) s then [t.1] else []
def reaM (x : Lb) (s : ByteArray) : List ByteArray := gath (reaG x s) 0 x.2.2.2.1
noncomputable def R6 : Specs := R5
theorem R6_ok : Ok R6 := R5_ok
end Go.Vm.S3

namespace Go.Vm.S3
open Go.Proofs Go.RowKit
set_option maxRecDepth 100000
variable (ps fs cs ts : List AV) (d u : Int)
theorem t132a (s : ByteArray) (e0 : Int) : L R6 132 [lbE ps fs cs ts d u, sA s] [.sp [lbE ps fs cs ts d u] (iA e0), .as 11 true] [.f 49, .b (e0 != 0)] (.tup [iA 0, iA e0]) := kR (by kernel_rfl)
theorem t132b (s : ByteArray) (e0 k e : Int) : L R6 132 [lbE ps fs cs ts d u, sA s] [.sp [lbE ps fs cs ts d u] (iA e0), .as 11 false, .sp [.rsl 3 ts false, .fn (.func 196) [] [.rptr [sA s]]] (iA k), .sp [bA (decide (k < 0)), iA 10] (iA e)] [.f 49, .b (e0 != 0), .f 143, .f 109] (.tup [iA k, iA e]) := kR (by kernel_rfl)
def ftM (x : Lb) (s : ByteArray) : Int := bif labM x != 0 then labM x else whenM (decide (findT x.2.2.2.1 s < 0)) 10
def ftI (x : Lb) (s : ByteArray) : Int := bif labM x != 0 then 0 else findT x.2.2.2.1 s
def ftG : List AV → Option AV := sp2 labC strC fun x s => bif okLb x then some (.tup [iA (ftI x s), iA (ftM x s)]) else none
theorem h132 : Holds 132 ftG := holds2 fun x s r hr => by
 cases hb : okLb x with
 | false => simp [hb] at hr
 | true =>
  simp only [hb, cond_true, Option.some.injEq] at hr; subst hr
  have K := okLb_at hb
  unfold ftI ftM
  cases he : labM x != 0 with
  | true => exact R6_ok.tr ((lx x t132a) s _) ⟨⟨rfl, spLab hb⟩, he, rfl⟩
  | false => exact R6_ok.tr ((lx x t132b) s (labM x) _ _) ⟨⟨rfl, spLab hb⟩, he, ⟨rfl, sp196 s (blt_lim K.ts)⟩, ⟨rfl, spWhen _ 10⟩, rfl⟩
def tIx (x : Lb) (s : ByteArray) : Nat := (findIx s (nmt x.2.2.2.1) 0).getD 0
theorem findT_ge {x : Lb} {s : ByteArray} (h : ¬ findT x.2.2.2.1 s < 0) : tIx x s < x.2.2.2.1.length ∧ findT x.2.2.2.1 s = Int.ofNat (tIx x s) ∧ findIx s (nmt x.2.2.2.1) 0 = some (tIx x s) := by
 unfold findT at h ⊢
 unfold tIx
 cases hf : findIx s (nmt x.2.2.2.1) 0 with
 | none => rw [hf] at h; exact absurd (by decide) h
 | some k =>
  have := (findIx_bound hf).2
  rw [Nat.zero_add, List.length_map] at this
  exact ⟨this, rfl, rfl⟩
theorem ftM_zero {x : Lb} {s : ByteArray} (h : ftM x s = 0) : labM x = 0 ∧ ¬ findT x.2.2.2.1 s < 0 := by
 unfold ftM at h
 cases he : labM x != 0 with
 | true => rw [he, cond_true] at h; rw [h] at he; cases he
 | false =>
  rw [he, cond_false] at h
  refine ⟨by simpa using he, fun hn => ?_⟩
  rw [decide_eq_true hn] at h; cases h
theorem spFt {x : Lb} (s : ByteArray) (h : okLb x = true) : ftG [lbA x, sA s] = some (.tup [iA (ftI x s), iA (ftM x s)]) := by
 have := sp2_at (A := labC) (B := strC) (F := fun x s => bif okLb x then some (.tup [iA (ftI x s), iA (ftM x s)]) else none) x s
 rw [h] at this; exact this
noncomputable def R7 : Specs := (R6.set 132 ftG)
theorem R7_ok : Ok R7 := (R6_ok.set h132)
end Go.Vm.S3
