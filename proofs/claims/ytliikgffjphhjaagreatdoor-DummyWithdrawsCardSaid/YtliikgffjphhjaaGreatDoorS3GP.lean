/- Days: whether a word says that something is wrong. -/
import Derived.Test.YtliikgffjphhjaaGreatDoorS3GO
namespace Go.Vm.S3
open Go.Proofs Go.RowKit
set_option maxRecDepth 100000
set_option maxRecDepth 20000
theorem k204n (es : List AV) (m i : Nat) (y : ByteArray) : Lq R21 0 222 9 19 28 0 [0, 1, 7, 8] [] [0, 1, 7, 8] [] [4] [] [.rsl 1 es false, .fn (.func 204) [] [], iA (Int.ofNat m), iA (Int.ofNat i)] [] [.as 9 true, .chk [sA y], .as 16 false] [.t i m, .g es i, .b (!(y.toList == (ByteArray.mk #[]).toList))] .nrm [.rsl 1 es false, .fn (Fn.func 204) [] [], iA (Int.ofNat m), iA (IntKind.i64.wrap (Int.ofNat i + 1))] [] := kQ (by kernel_rfl)
theorem k204y (es : List AV) (m i : Nat) (y : ByteArray) : Lq R21 0 222 9 19 28 0 [0, 1, 7, 8] [] [0, 1, 7, 8] [] [4] [] [.rsl 1 es false, .fn (.func 204) [] [], iA (Int.ofNat m), iA (Int.ofNat i)] [] [.as 9 true, .chk [sA y], .as 16 true] [.t i m, .g es i, .b (!(y.toList == (ByteArray.mk #[]).toList))] .ret [iA (Int.ofNat i)] [] := kQ (by kernel_rfl)
theorem k204x (es : List AV) (m i : Nat) : Lq R21 0 222 9 19 28 0 [0, 1, 7, 8] [] [0, 1, 7, 8] [] [] [] [.rsl 1 es false, .fn (.func 204) [] [], iA (Int.ofNat m), iA (Int.ofNat i)] [] [.as 9 false] [.t i m] (.exit 0) [] [] := kQ (by kernel_rfl)
theorem k204tr (es : List AV) (t : Int) : L R21 203 [.rsl 1 es false, .fn (.func 204) [] []] [.loop 0 [0, 1, 7, 8] [] [4] [] .ret [iA t] []] [.l 19 222 0 28 [.rsl 1 es false, .fn (Fn.func 204) [] [], iA (Int.ofNat es.length), iA 0] []] (bA (decide (t ≥ 0))) := kR (by kernel_rfl)
theorem k204te (es : List AV) : L R21 203 [.rsl 1 es false, .fn (.func 204) [] []] [.loop 0 [0, 1, 7, 8] [] [] [] (.exit 0) [] []] [.l 19 222 0 28 [.rsl 1 es false, .fn (Fn.func 204) [] [], iA (Int.ofNat es.length), iA 0] []] (bA (decide (-1 ≥ 0))) := kR (by kernel_rfl)
theorem k204_cmp  (l : List ByteArray) (hl : l.length < two63) : Cmp 203 [slA strC 1 l, .fn (.func 204) [] []] (bA (l.any (fun w : ByteArray => !nilB w))) := by
 have e : Int.ofNat (l.map strC.enc).length = Int.ofNat l.length := by simp
 have h := LoopRun.find (C := CS R21) (p := 0) (nt := 19) (rd := false) (c := lO (CS R21) 222 0) (fun i (x : ByteArray) => bif (fun w : ByteArray => !nilB w) x then some (Int.ofNat i) else none) (fun i => mkSt [0, 1, 7, 8] [] 28 [.rsl 1 (l.map strC.enc) false, .fn (.func 204) [] [], iA (Int.ofNat l.length), iA (Int.ofNat i)] [])
  (fun t => mkSt [4] [] 28 [iA t] []) (mkSt [] [] 28 [] []) (.exit 0) (fun _ => .ret) l (by simp) (by simp)
  (fun i x hx => by
   have hi := lt_len hx
   cases h : (fun w : ByteArray => !nilB w) x with
   | true => exact R21_ok.rndR (k204y  (l.map strC.enc) l.length i x) ⟨lt_of hi, get_map strC.enc hx, h, trivial, rfl⟩
   | false =>
    have hr := k204n  (l.map strC.enc) l.length i x
    rw [wrap_ix hi hl] at hr
    exact R21_ok.rndN hr ⟨lt_of hi, get_map strC.enc hx, h, trivial, rfl⟩)
  (R21_ok.rndX (k204x  (l.map strC.enc) l.length l.length) ⟨lt_self _, trivial, rfl⟩)
 rw [← e] at h
 rcases srch_anyN (fun w : ByteArray => !nilB w) l 0 with ⟨h1, h2⟩ | ⟨k, h1, h2⟩
 ·rw [h1] at h
  rw [h2]
  exact R21_ok.tr (k204te  (l.map strC.enc)) ⟨⟨trivial, trivial, h.says⟩, rfl⟩
 ·rw [h1] at h
  rw [h2, show bA true = bA (decide (Int.ofNat k ≥ 0)) by rw [decide_eq_true (by simp)]]
  exact R21_ok.tr (k204tr  (l.map strC.enc) (Int.ofNat k)) ⟨⟨trivial, trivial, h.says⟩, rfl⟩
def us204G : List AV → Option AV := sp2 strsC (fnC 204) fun l _ => bif Nat.ble l.length lim then some (bA (l.any fun w => !nilB w)) else none
theorem h203b : Holds 203 us204G := holds2 fun l u r hr => by
 cases hb : Nat.ble l.length lim with
 | false => simp [hb] at hr
 | true =>
  simp only [hb, cond_true, Option.some.injEq] at hr; subst hr
  exact k204_cmp l (limTwo (Nat.le_of_ble_eq_true hb))
theorem sp204 {l : List ByteArray} (hl : Nat.ble l.length lim = true) : orG us203G us204G [slA strC 1 l, fnV 204] = some (bA (l.any fun w => !nilB w)) := or_r (clo_ne rfl) (by
 have := sp2_at (A := strsC) (B := fnC 204) (F := fun l _ => bif Nat.ble l.length lim then some (bA (l.any fun w => !nilB w)) else none) l ()
 rw [hl] at this; exact this)
noncomputable def D1 : Specs := (R21.set 203 (orG us203G us204G))
theorem D1_ok : Ok D1 := (R21_ok.set (holds_or h203 h203b))
end Go.Vm.S3

namespace Go.Vm.S3
open Go.Proofs Go.RowKit
set_option maxRecDepth 100000
variable (ps fs cs ts : List AV) (d u : Int)
set_option maxRecDepth 20000
theorem t140 (i : Int) (rs : List AV) (q : Bool) : L D1 140 [lbE ps fs cs ts d u, iA i] [.sp [lbE ps fs cs ts d u, iA i] (.rsl 1 rs false), .sp [.rsl 1 rs false, .fn (.func 204) [] []] (bA q)] [.f 134, .f 203] (bA !q) := kR (by kernel_rfl)
def covM (x : Lb) (i : Nat) : Bool := !(wrgM x i).any fun w => !nilB w
def in140 (x : Lb) (i : Int) : Bool := okLb x && (decide (labM x = 0) && (decide (0 ≤ i) && decide (i.toNat < x.2.2.2.1.length)))
def cov140G : List AV → Option AV := sp2 labC intC fun x i => bif in140 x i then some (bA (covM x i.toNat)) else none
theorem h140 : Holds 140 cov140G := holds2 fun x i r hr => by
 cases hb : in140 x i with
 | false => simp [hb] at hr
 | true =>
  simp only [hb, cond_true, Option.some.injEq] at hr; subst hr
  unfold in140 at hb
  simp only [Bool.and_eq_true, decide_eq_true_eq] at hb
  obtain ⟨hok, hz, h0, h1⟩ := hb
  obtain ⟨k, rfl⟩ := Int.eq_ofNat_of_zero_le h0
  simp only [Int.toNat_natCast] at h1 ⊢
  have f := spWrg hok hz h1
  exact D1_ok.tr ((lx x t140) (Int.ofNat k) _ _) ⟨⟨rfl, f⟩, ⟨rfl, sp204 (Nat.ble_eq_true_of_le (wrg_lim hok h1))⟩, rfl⟩
theorem sp140 {x : Lb} {k : Nat} (hok : okLb x = true) (hz : labM x = 0) (h : k < x.2.2.2.1.length) : cov140G [lbA x, iA (Int.ofNat k)] = some (bA (covM x k)) := by
 have := sp2_at (A := labC) (B := intC) (F := fun x i => bif in140 x i then some (bA (covM x i.toNat)) else none) x (Int.ofNat k)
 rw [show in140 x (Int.ofNat k) = true by unfold in140; rw [hok, decide_eq_true hz, show decide ((0 : Int) ≤ Int.ofNat k) = true from decide_eq_true (by simp), show (Int.ofNat k).toNat = k from rfl, decide_eq_true h]; rfl] at this
 exact this
noncomputable def D2 : Specs := (D1.set 140 cov140G)
theorem D2_ok : Ok D2 := (D1_ok.set h140)
end Go.Vm.S3

namespace Go.Vm.S3
open Go.Proofs Go.RowKit
set_option maxRecDepth 100000
variable (ps fs cs ts : List AV) (d u : Int)
set_option maxRecDepth 20000
theorem v135na (es : List AV) (l i : Nat) (q : Bool) (a : ByteArray) (n : Int) (ws : List AV) : Lr D2 135 33 0 [1, 7, 16, 17, 18] [] [1, 7, 16, 17, 18] [] [7] [] [.fn (.func 140) [lbE ps fs cs ts d u] [], nilS, .rsl 3 es false, iA (Int.ofNat l), iA (Int.ofNat i)] [] [.as 19 true, .chk [.agg [sA a, iA n, .rsl 1 ws false]], .sp [lbE ps fs cs ts d u, iA (Int.ofNat i)] (bA q), .as 25 false] [.t i l, .g es i, .f 140, .b q] .nrm [.fn (Fn.func 140) [lbE ps fs cs ts d u] [], .v (.slice none 0 0), .rsl 3 es false, iA (Int.ofNat l), iA (IntKind.i64.wrap (Int.ofNat i + 1))] [] := kN (by kernel_rfl)
theorem v135ya (es : List AV) (l i : Nat) (q : Bool) (a : ByteArray) (n : Int) (ws : List AV) : Lr D2 135 33 0 [1, 7, 16, 17, 18] [] [1, 7, 16, 17, 18] [30] [7] [] [.fn (.func 140) [lbE ps fs cs ts d u] [], nilS, .rsl 3 es false, iA (Int.ofNat l), iA (Int.ofNat i)] [] [.as 19 true, .chk [.agg [sA a, iA n, .rsl 1 ws false]], .sp [lbE ps fs cs ts d u, iA (Int.ofNat i)] (bA q), .as 25 true] [.t i l, .g es i, .f 140, .b q] .nrm [.fn (Fn.func 140) [lbE ps fs cs ts d u] [], .sl 30 0 1 0 1, .rsl 3 es false, iA (Int.ofNat l), iA (IntKind.i64.wrap (Int.ofNat i + 1))] [(false, .arr 1 [sA a] false)] := kN (by kernel_rfl)
theorem v135xa (es : List AV) (l i : Nat) : Lr D2 135 33 0 [1, 7, 16, 17, 18] [] [1, 7, 16, 17, 18] [] [7] [] [.fn (.func 140) [lbE ps fs cs ts d u] [], nilS, .rsl 3 es false, iA (Int.ofNat l), iA (Int.ofNat i)] [] [.as 19 false] [.t i l] (.exit 0) [.v (.slice none 0 0)] [] := kN (by kernel_rfl)
theorem v135nb (es : List AV) (l i : Nat) (rs : List AV) (m : Nat) (q : Bool) (a : ByteArray) (n : Int) (ws : List AV) : Lr D2 135 33 0 [1, 7, 16, 17, 18] [30] [1, 7, 16, 17, 18] [30] [7] [30] [.fn (.func 140) [lbE ps fs cs ts d u] [], .sl 30 0 1 0 m, .rsl 3 es false, iA (Int.ofNat l), iA (Int.ofNat i)] [(false, .arr 1 rs false)] [.as 19 true, .chk [.agg [sA a, iA n, .rsl 1 ws false]], .sp [lbE ps fs cs ts d u, iA (Int.ofNat i)] (bA q), .as 25 false] [.t i l, .g es i, .f 140, .b q] .nrm [.fn (Fn.func 140) [lbE ps fs cs ts d u] [], .sl 30 0 1 0 m, .rsl 3 es false, iA (Int.ofNat l), iA (IntKind.i64.wrap (Int.ofNat i + 1))] [(false, .arr 1 rs false)] := kN (by kernel_rfl)
theorem v135yb (es : List AV) (l i : Nat) (rs : List AV) (m : Nat) (q : Bool) (a : ByteArray) (n : Int) (ws : List AV) : Lr D2 135 33 0 [1, 7, 16, 17, 18] [30] [1, 7, 16, 17, 18] [30] [7] [30] [.fn (.func 140) [lbE ps fs cs ts d u] [], .sl 30 0 1 0 m, .rsl 3 es false, iA (Int.ofNat l), iA (Int.ofNat i)] [(false, .arr 1 rs false)] [.as 19 true, .chk [.agg [sA a, iA n, .rsl 1 ws false]], .sp [lbE ps fs cs ts d u, iA (Int.ofNat i)] (bA q), .as 25 true, .chk rs] [.t i l, .g es i, .f 140, .b q, .k (apn m rs 1 [sA a] 16)] .nrm [.fn (Fn.func 140) [lbE ps fs cs ts d u] [], .sl 30 0 1 0 ((rs ++ ([sA a] : List AV)).length), .rsl 3 es false, iA (Int.ofNat l), iA (IntKind.i64.wrap (Int.ofNat i + 1))] [(false, .arr 1 (rs ++ ([sA a] : List AV)) false)] := kN (by kernel_rfl)
theorem v135xb (es : List AV) (l i : Nat) (rs : List AV) (m : Nat) : Lr D2 135 33 0 [1, 7, 16, 17, 18] [30] [1, 7, 16, 17, 18] [30] [7] [30] [.fn (.func 140) [lbE ps fs cs ts d u] [], .sl 30 0 1 0 m, .rsl 3 es false, iA (Int.ofNat l), iA (Int.ofNat i)] [(false, .arr 1 rs false)] [.as 19 false] [.t i l] (.exit 0) [.sl 30 0 1 0 m] [(false, .arr 1 rs false)] := kN (by kernel_rfl)
theorem v135ta (e : Int) : L D2 135 [lbE ps fs cs ts d u, .fn (.func 140) [lbE ps fs cs ts d u] []] [.sp [lbE ps fs cs ts d u] (iA e), .as 13 true] [.f 49, .b (e != 0)] (.tup [.v (.slice none 0 0), iA e]) := kR (by kernel_rfl)
theorem v135tb (e : Int) (rs : List AV) : L D2 135 [lbE ps fs cs ts d u, .fn (.func 140) [lbE ps fs cs ts d u] []] [.sp [lbE ps fs cs ts d u] (iA e), .as 13 false, .loop 0 [1, 7, 16, 17, 18] [] [7] [] (.exit 0) [.rsl 1 rs false] []] [.f 49, .b (e != 0), .l 33 135 0 33 [.fn (Fn.func 140) [lbE ps fs cs ts d u] [], .v (.slice none 0 0), .rsl 3 ts false, iA (Int.ofNat ts.length), iA 0] []] (.tup [.rsl 1 rs false, iA 0]) := kR (by kernel_rfl)
def bndC {α : Type} (f : FuncId) (A : Cod α) : Cod α where
  dec | .fn (.func f') [a] [] => bif Nat.beq f' f then A.dec a else none
      | _ => none
  enc x := .fn (.func f) [A.enc x] []
  weak a x h := by
    split at h
    · rename_i f' a'
      cases hb : Nat.beq f' f with
      | false => simp [hb] at h
      | true =>
        simp only [hb, cond_true] at h
        have hf := Nat.eq_of_beq_eq_true hb
        subst hf
        intro M y hy
        unfold Rep at hy ⊢
        obtain ⟨l, c, rfl, h1, h2⟩ := hy
        refine ⟨l, c, rfl, ?_, h2⟩
        rw [RepL.cons_iff] at h1 ⊢
        obtain ⟨z, zs, e, h3, h4⟩ := h1
        exact ⟨z, zs, e, A.weak _ _ h _ _ h3, h4⟩
    · cases h
  rt x := by simp [A.rt]
theorem v135_run (x : Lb) (hb : okLb x = true) (hz : labM x = 0) :
  LoopRun (CS D2) 0 33 false (lO (CS D2) 135 0) (mkSt [1, 7, 16, 17, 18] [] 33 [.fn (.func 140) [lbA x] [], nilS, .rsl 3 (x.2.2.2.1.map tsC.enc) false, iA (Int.ofNat x.2.2.2.1.length), iA 0] []) (.exit 0) (mkSt [7] [] 33 [.rsl 1 ((chM x (covM x)).map strC.enc) false] []) := by
 have K := okLb_at hb
 have hlim := K.ts
 have hl := limTwo hlim
 exact LoopRun.pushes (C := CS D2) (p := 0) (nt := 33) (rd := false) (c := lO (CS D2) 135 0) strC.enc (chG (covM x)) (chG_le _) (key := 30) (sz := 1) (ts := [1, 7, 16, 17, 18]) (ks := []) (fun i a => [.fn (.func 140) [lbA x] [], a, .rsl 3 (x.2.2.2.1.map tsC.enc) false, iA (Int.ofNat x.2.2.2.1.length), iA (Int.ofNat i)]) (fun _ => [])
   (nf := 33) (ts2 := [7]) (fun a => [a]) (ex := .exit 0) x.2.2.2.1 (by simp) (by decide) (by decide) (fun _ => rfl) (fun _ => rfl)
   (fun es n hn => .cons (FzS.sl hn) .nil) (fun es n hn => .nil) (.cons Weak.nilSl .nil) .nil
   (fun i t ht hg => by
    have hi := lt_len ht
    have f := sp140 (x := x) hb hz hi
    rw [chG_no hg] at f
    have hr := v135na (x.1.map ptC.enc) (x.2.1.map ftC.enc) (x.2.2.1.map cbC.enc) (x.2.2.2.1.map tsC.enc) x.2.2.2.2.1 x.2.2.2.2.2 (x.2.2.2.1.map tsC.enc) x.2.2.2.1.length i false t.1 t.2.1 (t.2.2.map strC.enc)
    rw [wrap_ix hi hl] at hr
    exact D2_ok.rndN hr ⟨lt_of hi, get_map tsC.enc ht, ⟨rfl, f⟩, rfl, trivial, rfl⟩)
   (fun i t rs ht hg hc => by
    have hi := lt_len ht
    have f := sp140 (x := x) hb hz hi
    rw [chG_no hg] at f
    have hr := v135nb (x.1.map ptC.enc) (x.2.1.map ftC.enc) (x.2.2.1.map cbC.enc) (x.2.2.2.1.map tsC.enc) x.2.2.2.2.1 x.2.2.2.2.2 (x.2.2.2.1.map tsC.enc) x.2.2.2.1.length i rs rs.length false t.1 t.2.1 (t.2.2.map strC.enc)
    rw [wrap_ix hi hl] at hr
    exact D2_ok.rndN hr ⟨lt_of hi, get_map tsC.enc ht, ⟨rfl, f⟩, rfl, ⟨hc, trivial⟩, rfl⟩)
   (fun i t y ht hg => by
    have hi := lt_len ht
    obtain ⟨h1, rfl⟩ := chG_yes hg
    have f := sp140 (x := x) hb hz hi
    rw [h1] at f
    have hr := v135ya (x.1.map ptC.enc) (x.2.1.map ftC.enc) (x.2.2.1.map cbC.enc) (x.2.2.2.1.map tsC.enc) x.2.2.2.2.1 x.2.2.2.2.2 (x.2.2.2.1.map tsC.enc) x.2.2.2.1.length i true t.1 t.2.1 (t.2.2.map strC.enc)
    rw [wrap_ix hi hl] at hr
    exact D2_ok.rndN hr ⟨lt_of hi, get_map tsC.enc ht, ⟨rfl, f⟩, rfl, ⟨closedStr [t.1], trivial⟩, rfl⟩)
   (fun i t y rs ht hg hc hrs => by
    have hi := lt_len ht
    obtain ⟨h1, rfl⟩ := chG_yes hg
    have f := sp140 (x := x) hb hz hi
    rw [h1] at f
    have hlen : (rs ++ [strC.enc t.1]).length ≤ 1000001 := by rw [List.length_append]; unfold lim at hlim; simp; omega
    have hr := v135yb (x.1.map ptC.enc) (x.2.1.map ftC.enc) (x.2.2.1.map cbC.enc) (x.2.2.2.1.map tsC.enc) x.2.2.2.2.1 x.2.2.2.2.2 (x.2.2.2.1.map tsC.enc) x.2.2.2.1.length i rs rs.length true t.1 t.2.1 (t.2.2.map strC.enc)
    rw [wrap_ix hi hl] at hr
    exact D2_ok.rndN hr ⟨lt_of hi, get_map tsC.enc ht, ⟨rfl, f⟩, rfl, ⟨rfl, rfl, rfl, by show (rs ++ [strC.enc t.1]).length * 16 ≤ _; omega, by show (rs ++ [strC.enc t.1]).length ≤ _; omega, by decide⟩, ⟨hc.append (closedStr [t.1]), trivial⟩, rfl⟩)
   (D2_ok.rndX (v135xa (x.1.map ptC.enc) (x.2.1.map ftC.enc) (x.2.2.1.map cbC.enc) (x.2.2.2.1.map tsC.enc) x.2.2.2.2.1 x.2.2.2.2.2 (x.2.2.2.1.map tsC.enc) x.2.2.2.1.length x.2.2.2.1.length) ⟨lt_self _, trivial, rfl⟩)
   (fun rs hc => D2_ok.rndX (v135xb (x.1.map ptC.enc) (x.2.1.map ftC.enc) (x.2.2.1.map cbC.enc) (x.2.2.2.1.map tsC.enc) x.2.2.2.2.1 x.2.2.2.2.2 (x.2.2.2.1.map tsC.enc) x.2.2.2.1.length x.2.2.2.1.length rs rs.length) ⟨lt_self _, ⟨hc, trivial⟩, rfl⟩)
theorem v135_cmp (x : Lb) (hb : okLb x = true) : Cmp 135 [lbA x, .fn (.func 140) [lbA x] []] (.tup [slA strC 1 (ch135 x (covM x)), iA (labM x)]) := by
 unfold ch135
 cases he : labM x != 0 with
 | true => exact Comp.weak (D2_ok.tr (v135ta (x.1.map ptC.enc) (x.2.1.map ftC.enc) (x.2.2.1.map cbC.enc) (x.2.2.2.1.map tsC.enc) x.2.2.2.2.1 x.2.2.2.2.2 (labM x)) ⟨⟨rfl, spLab hb⟩, he, rfl⟩) WeakL.rfl tup_nil
 | false =>
  have hz : labM x = 0 := by simpa using he
  have h := v135_run x hb hz
  rw [← e_ts x.2.2.2.1] at h
  have := D2_ok.tr (v135tb (x.1.map ptC.enc) (x.2.1.map ftC.enc) (x.2.2.1.map cbC.enc) (x.2.2.2.1.map tsC.enc) x.2.2.2.2.1 x.2.2.2.2.2 (labM x) ((chM x (covM x)).map strC.enc)) ⟨⟨rfl, spLab hb⟩, he, ⟨trivial, trivial, h.says⟩, rfl⟩
  rw [hz]; exact this
noncomputable def ch140G : List AV → Option AV := sp2 labC (bndC 140 labC) fun x q => bif okLb x && eqC q x then some (.tup [slA strC 1 (ch135 x (covM x)), iA (labM x)]) else none
theorem h135v : Holds 135 ch140G := holds2 fun x q r hr => by
 cases hb : okLb x && eqC q x with
 | false => simp [hb] at hr
 | true =>
  simp only [hb, cond_true, Option.some.injEq] at hr; subst hr
  rw [Bool.and_eq_true] at hb
  have e : q = x := eqC_of hb.2
  subst e
  exact v135_cmp q hb.1
theorem bnd_ne {α β : Type} {A : Cod α} {R : RC β} {f g : FuncId} {F : α → β → Option AV} {a b : AV} : sp2 A (cloR f R) F [a, .fn (.func g) [b] []] = none := by
 have hd : (cloR f R).dec (.fn (.func g) [b] []) = none := rfl
 simp only [sp2, hd]
 cases A.dec a <;> rfl
theorem spCh140 {x : Lb} (h : okLb x = true) : orG ch136G ch140G [lbA x, .fn (.func 140) [lbA x] []] = some (.tup [slA strC 1 (ch135 x (covM x)), iA (labM x)]) := or_r (bnd_ne) (by
 have := sp2_at (A := labC) (B := bndC 140 labC) (F := fun x q => bif okLb x && eqC q x then some (.tup [slA strC 1 (ch135 x (covM x)), iA (labM x)]) else none) x x
 rw [h, eqC_self] at this; exact this)
noncomputable def D3 : Specs := (D2.set 135 (orG ch136G ch140G))
theorem D3_ok : Ok D3 := (D2_ok.set (holds_or h135u h135v))
end Go.Vm.S3

namespace Go.Vm.S3
open Go.Proofs Go.RowKit
set_option maxRecDepth 100000
variable (ps fs cs ts : List AV) (d u : Int)
set_option maxRecDepth 20000
theorem t59 (rs : List AV) (e : Int) : L D3 59 [lbE ps fs cs ts d u] [.sp [lbE ps fs cs ts d u, .fn (.func 140) [lbE ps fs cs ts d u] []] (.tup [.rsl 1 rs false, iA e])] [.f 135] (.tup [.rsl 1 rs false, iA e]) := kR (by kernel_rfl)
def cv59G : List AV → Option AV := sp1 labC fun x => bif okLb x then some (.tup [slA strC 1 (ch135 x (covM x)), iA (labM x)]) else none
theorem h59 : Holds 59 cv59G := holds1 fun x r hr => by
 cases hb : okLb x with
 | false => simp [hb] at hr
 | true =>
  simp only [hb, cond_true, Option.some.injEq] at hr; subst hr
  exact D3_ok.tr ((lx x t59) _ _) ⟨⟨rfl, spCh140 hb⟩, rfl⟩
noncomputable def D4 : Specs := (D3.set 59 cv59G)
theorem D4_ok : Ok D4 := (D3_ok.set h59)
end Go.Vm.S3

namespace Go.Vm.S3
open Go.Proofs Go.RowKit
set_option maxRecDepth 20000
end Go.Vm.S3

namespace Go.Vm.S3
open Go.Proofs Go.RowKit
set_option maxRecDepth 20000
end Go.Vm.S3

namespace Go.Vm.S3
open Go.Proofs Go.RowKit
set_option maxRecDepth 20000
end Go.Vm.S3

namespace Go.Vm.S3
open Go.Proofs Go.RowKit
set_option maxRecDepth 20000
end Go.Vm.S3

namespace Go.Vm.S3
open Go.Proofs Go.RowKit
set_option maxRecDepth 20000
end Go.Vm.S3

namespace Go.Vm.S3
open Go.Proofs Go.RowKit
set_option maxRecDepth 20000
end Go.Vm.S3
