/- Days: whether a word says that something is wrong. -/
import Derived.Test.YtliikgffjphhjaaGreatDoorS3GO
namespace Go.Vm.S3
open Go.Proofs Go.RowKit
set_option maxRecDepth 100000
set_option maxRecDepth 20000
theorem k204n (es : List AV) (m i : Nat) (y : ByteArray) : Lq R21 0 222 9 19 28 0 [0, 1, 7, 8] [] [0, 1, 7, 8] [] [4] [] [.rsl 1 es false, .fn (.func 204) [] [], iA (Int.ofNat m), iA (Int.ofNat i)] [] [.as 9 true, .chk [sA y], .as 16 false] [.t i m, .g es i, .b (!(y.toList == (ByteArray.mk #[]).toList))] .nrm [.rsl 1 es false, .fn (Fn.func 204) [] [], iA (Int.ofNat m), iA (IntKind.i64.wrap (Int.ofNat i + 1))] [] := kq (by kernel_rfl)
theorem k204y (es : List AV) (m i : Nat) (y : ByteArray) : Lq R21 0 222 9 19 28 0 [0, 1, 7, 8] [] [0, 1, 7, 8] [] [4] [] [.rsl 1 es false, .fn (.func 204) [] [], iA (Int.ofNat m), iA (Int.ofNat i)] [] [.as 9 true, .chk [sA y], .as 16 true] [.t i m, .g es i, .b (!(y.toList == (ByteArray.mk #[]).toList))] .ret [iA (Int.ofNat i)] [] := kq (by kernel_rfl)
theorem k204x (es : List AV) (m i : Nat) : Lq R21 0 222 9 19 28 0 [0, 1, 7, 8] [] [0, 1, 7, 8] [] [] [] [.rsl 1 es false, .fn (.func 204) [] [], iA (Int.ofNat m), iA (Int.ofNat i)] [] [.as 9 false] [.t i m] (.exit 0) [] [] := kq (by kernel_rfl)
theorem k204tr (es : List AV) (t : Int) : L R21 203 [.rsl 1 es false, .fn (.func 204) [] []] [.loop 0 [0, 1, 7, 8] [] [4] [] .ret [iA t] []] [.l 19 222 0 28 [.rsl 1 es false, .fn (Fn.func 204) [] [], iA (Int.ofNat es.length), iA 0] []] (bA (decide (t ≥ 0))) := kr (by kernel_rfl)
theorem k204te (es : List AV) : L R21 203 [.rsl 1 es false, .fn (.func 204) [] []] [.loop 0 [0, 1, 7, 8] [] [] [] (.exit 0) [] []] [.l 19 222 0 28 [.rsl 1 es false, .fn (Fn.func 204) [] [], iA (Int.ofNat es.length), iA 0] []] (bA (decide (-1 ≥ 0))) := kr (by kernel_rfl)
theorem k204_cmp  (l : List ByteArray) (hl : l.length < two63) : Cmp 203 [slA strC 1 l, .fn (.func 204) [] []] (bA (l.any (fun w : ByteArray => !nilB w))) := by
 have e : Int.ofNat (l.map strC.enc).length = Int.ofNat l.length := by simp
 have h := LoopRun.find (C := CS R21) (p := 0) (nt := 19) (rd := false) (c := lO (CS R21) 222 0) (fun i (x : ByteArray) => bif (fun w : ByteArray => !nilB w) x then some (Int.ofNat i) else none) (fun i => mkSt [0, 1, 7, 8] [] 28 [.rsl 1 (l.map strC.enc) false, .fn (.func 204) [] [], iA (Int.ofNat l.length), iA (Int.ofNat i)] [])
  (fun t => mkSt [4] [] 28 [iA t] []) (mkSt [] [] 28 [] []) (.exit 0) (fun _ => .ret) l (by simp) (by simp)
  (fun i x hx => by
   have hi := lt_len hx
   cases h : (fun w : ByteArray => !nilB w) x with
   | true => exact R21_ok.rndR (k204y  (l.map strC.enc) l.length i x) ⟨lt_of hi, get_map strC.enc hx, h, trivial, rfl⟩
   | false =>
    have hr := k204n  (l.map strC.enc) l.length i x
    rw [wrap_ix hi hl] at hr
    exact R21_ok.rndN hr ⟨lt_of hi, get_map strC.enc hx, h, trivial, rfl⟩)
  (R21_ok.rndX (k204x  (l.map strC.enc) l.length l.length) ⟨lt_self _, trivial, rfl⟩)
 rw [← e] at h
 rcases srch_anyN (fun w : ByteArray => !nilB w) l 0 with ⟨h1, h2⟩ | ⟨k, h1, h2⟩
 ·rw [h1] at h
  rw [h2]
  exact R21_ok.tr (k204te  (l.map strC.enc)) ⟨⟨trivial, trivial, h.says⟩, rfl⟩
 ·rw [h1] at h
  rw [h2, show bA true = bA (decide (Int.ofNat k ≥ 0)) by rw [decide_eq_true (by simp)]]
  exact R21_ok.tr (k204tr  (l.map strC.enc) (Int.ofNat k)) ⟨⟨trivial, trivial, h.says⟩, rfl⟩
def us204G : List AV → Option AV := sp2 strsC (fnC 204) fun l _ => bif Nat.ble l.length lim then some (bA (l.any fun w => !nilB w)) else none
theorem h203b : Holds 203 us204G := holds2 fun l u r hr => by
 cases hb : Nat.ble l.length lim with
 | false => simp [hb] at hr
 | true =>
  simp only [hb, cond_true, Option.some.injEq] at hr; subst hr
  exact k204_cmp l (limTwo (Nat.le_of_ble_eq_true hb))
theorem sp204 {l : List ByteArray} (hl : Nat.ble l.length lim = true) : orG us203G us204G [slA strC 1 l, fnV 204] = some (bA (l.any fun w => !nilB w)) := or_r (clo_ne rfl) (by
 have := sp2_at (A := strsC) (B := fnC 204) (F := fun l _ => bif Nat.ble l.length lim then some (bA (l.any fun w => !nilB w)) else none) l ()
 rw [hl] at this; exact this)
noncomputable def D1 : Specs := (R21.set 203 (orG us203G us204G))
theorem D1_ok : Ok D1 := (R21_ok.set (holds_or h203 h203b))
end Go.Vm.S3

namespace Go.Vm.S3
open Go.Proofs Go.RowKit
set_option maxRecDepth 100000
variable (ps fs cs ts : List AV) (d u : Int)
set_option maxRecDepth 20000
theorem t140 (i : Int) (rs : List AV) (q : Bool) : L D1 140 [lbE ps fs cs ts d u, iA i] [.sp [lbE ps fs cs ts d u, iA i] (.rsl 1 rs false), .sp [.rsl 1 rs false, .fn (.func 204) [] []] (bA q)] [.f 134, .f 203] (bA !q) := kr (by kernel_rfl)
def covM (x : Lb) (i : Nat) : Bool := !(wrgM x i).any fun w => !nilB w
def in140 (x : Lb) (i : Int) : Bool := okLb x && (decide (labM x = 0) && (decide (0 ≤ i) && decide (i.toNat < x.2.2.2.1.length)))
def cov140G : List AV → Option AV := sp2 labC intC fun x i => bif in140 x i then some (bA (covM x i.toNat)) else none
theorem h140 : Holds 140 cov140G := holds2 fun x i r hr => by
 cases hb : in140 x i with
 | false => simp [hb] at hr
 | true =>
  simp only [hb, cond_true, Option.some.injEq] at hr; subst hr
  unfold in140 at hb
  simp only [Bool.and_eq_true, decide_eq_true_eq] at hb
  obtain ⟨hok, hz, h0, h1⟩ := hb
  obtain ⟨k, rfl⟩ := Int.eq_ofNat_of_zero_le h0
  simp only [Int.toNat_natCast] at h1 ⊢
  have f := spWrg hok hz h1
  exact D1_ok.tr ((lx x t140) (Int.ofNat k) _ _) ⟨⟨rfl, f⟩, ⟨rfl, sp204 (Nat.ble_eq_true_of_le (wrg_lim hok h1))⟩, rfl⟩
theorem sp140 {x : Lb} {k : Nat} (hok : okLb x = true) (hz : labM x = 0) (h : k < x.2.2.2.1.length) : cov140G [lbA x, iA (Int.ofNat k)] = some (bA (covM x k)) := by
 have := sp2_at (A := labC) (B := intC) (F := fun x i => bif in140 x i then some (bA (covM x i.toNat)) else none) x (Int.ofNat k)
 rw [show in140 x (Int.ofNat k) = true by unfold in140; rw [hok, decide_eq_true hz, show decide ((0 : Int) ≤ Int.ofNat k) = true from decide_eq_true (by simp), show (Int.ofNat k).toNat = k from rfl, decide_eq_true h]; rfl] at this
 exact this
noncomputable def D2 : Specs := (D1.set 140 cov140G)
theorem D2_ok : Ok D2 := (D1_ok.set h140)
end Go.Vm.S3

namespace Go.Vm.S3
open Go.Proofs Go.RowKit
set_option maxRecDepth 100000
variable (ps fs cs ts : List AV) (d u : Int)
set_option maxRecDepth 20000
theorem v135na (es : List AV) (l i : Nat) (q : Bool) (a : ByteArray) (n : Int) (ws : List AV) : Lr D2 135 33 0 [1, 7, 16, 17, 18] [] [1, 7, 16, 17, 18] [] [7] [] [.fn (.func 140) [lbE ps fs cs ts d u] [], nilS, .rsl 3 es false, iA (Int.ofNat l), iA (Int.ofNat i)] [] [.as 19 true, .chk [.agg [sA a, iA n, .rsl 1 ws false]], .sp [lbE ps fs cs ts d u, iA (Int.ofNat i)] (bA q), .as 25 false] [.t i l, .g es i, .f 140, .b q] .nrm [.fn (Fn.func 140) [lbE ps fs cs ts d u] [], .v (.slice none 0 0), .rsl 3 es false, iA (Int.ofNat l), iA (IntKind.i64.wrap (Int.ofNat i + 1))] [] := kn (by kernel_rfl)
theorem v135ya (es : List AV) (l i : Nat) (q : Bool) (a : ByteArray) (n : Int) (ws : List AV) : Lr D2 135 33 0 [1, 7, 16, 17, 18] [] [1, 7, 16, 17, 18] [30] [7] [] [.fn (.func 140) [lbE ps fs cs ts d u] [], nilS, .rsl 3 es false, iA (Int.ofNat l), iA (Int.ofNat i)] [] [.as 19 true, .chk [.agg [sA a, iA n, .rsl 1 ws false]], .sp [lbE ps fs cs ts d u, iA (Int.ofNat i)] (bA q), .as 25 true] [.t i l, .g es i, .f 140, .b q] .nrm [.fn (Fn.func 140) [lbE ps fs cs ts d u] [], .sl 30 0 1 0 1, .rsl 3 es false, iA (Int.ofNat l), iA (IntKind.i64.wrap (Int.ofNat i + 1))] [(false, .arr 1 [sA a] false)] := kn (by kernel_rfl)
theorem v135xa (es : List AV) (l i : Nat) : Lr D2 135 33 0 [1, 7, 16, 17, 18] [] [1, 7, 16, 17, 18] [] [7] [] [.fn (.func 140) [lbE ps fs cs ts d u] [], nilS, .rsl 3 es false, iA (Int.ofNat l), iA (Int.ofNat i)] [] [.as 19 false] [.t i l] (.exit 0) [.v (.slice none 0 0)] [] := kn (by kernel_rfl)
theorem v135nb (es : List AV) (l i : Nat) (rs : List AV) (m : Nat) (q : Bool) (a : ByteArray) (n : Int) (ws : List AV) : Lr D2 135 33 0 [1, 7, 16, 17, 18] [30] [1, 7, 16, 17, 18] [30] [7] [30] [.fn (.func 140) [lbE ps fs cs ts d u] [], .sl 30 0 1 0 m, .rsl 3 es false, iA (Int.ofNat l), iA (Int.ofNat i)] [(false, .arr 1 rs false)] [.as 19 true, .chk [.agg [sA a, iA n, .rsl 1 ws false]], .sp [lbE ps fs cs ts d u, iA (Int.ofNat i)] (bA q), .as 25 false] [.t i l, .g es i, .f 140, .b q] .nrm [.fn (Fn.func 140) [lbE ps fs cs ts d u] [], .sl 30 0 1 0 m, .rsl 3 es false, iA (Int.ofNat l), iA (IntKind.i64.wrap (Int.ofNat i + 1))] [(false, .arr 1 rs false)] := kn (by kernel_rfl)
theorem v135yb (es : List AV) (l i : Nat) (rs : List AV) (m : Nat) (q : Bool) (a : ByteArray) (n : Int) (ws : List AV) : Lr D2 135 33 0 [1, 7, 16, 17, 18] [30] [1, 7, 16, 17, 18] [30] [7] [30] [.fn (.func 140) [lbE ps fs cs ts d u] [], .sl 30 0 1 0 m, .rsl 3 es false, iA (Int.ofNat l), iA (Int.ofNat i)] [(false, .arr 1 rs false)] [.as 19 true, .chk [.agg [sA a, iA n, .rsl 1 ws false]], .sp [lbE ps fs cs ts d u, iA (Int.ofNat i)] (bA q), .as 25 true, .chk rs] [.t i l, .g es i, .f 140, .b q, .k (apn m rs 1 [sA a] 16)] .nrm [.fn (Fn.func 140) [lbE ps fs cs ts d u] [], .sl 30 0 1 0 ((rs ++ ([sA a] : List AV)).length), .rsl 3 es false, iA (Int.ofNat l), iA (IntKind.i64.wrap (Int.ofNat i + 1))] [(false, .arr 1 (rs ++ ([sA a] : List AV)) false)] := kn (by kernel_rfl)
theorem v135xb (es : List AV) (l i : Nat) (rs : List AV) (m : Nat) : Lr D2 135 33 0 [1, 7, 16, 17, 18] [30] [1, 7, 16, 17, 18] [30] [7] [30] [.fn (.func 140) [lbE ps fs cs ts d u] [], .sl 30 0 1 0 m, .rsl 3 es false, iA (Int.ofNat l), iA (Int.ofNat i)] [(false, .arr 1 rs false)] [.as 19 false] [.t i l] (.exit 0) [.sl 30 0 1 0 m] [(false, .arr 1 rs false)] := kn (by kernel_rfl)
theorem v135ta (e : Int) : L D2 135 [lbE ps fs cs ts d u, .fn (.func 140) [lbE ps fs cs ts d u] []] [.sp [lbE ps fs cs ts d u] (iA e), .as 13 true] [.f 49, .b (e != 0)] (.tup [.v (.slice none 0 0), iA e]) := kr (by kernel_rfl)
theorem v135tb (e : Int) (rs : List AV) : L D2 135 [lbE ps fs cs ts d u, .fn (.func 140) [lbE ps fs cs ts d u] []] [.sp [lbE ps fs cs ts d u] (iA e), .as 13 false, .loop 0 [1, 7, 16, 17, 18] [] [7] [] (.exit 0) [.rsl 1 rs false] []] [.f 49, .b (e != 0), .l 33 135 0 33 [.fn (Fn.func 140) [lbE ps fs cs ts d u] [], .v (.slice none 0 0), .rsl 3 ts false, iA (Int.ofNat ts.length), iA 0] []] (.tup [.rsl 1 rs false, iA 0]) := kr (by kernel_rfl)
def bndC {α : Type} (f : FuncId) (A : Cod α) : Cod α where
  dec | .fn (.func f') [a] [] => bif Nat.beq f' f then A.dec a else none
      | _ => none
  enc x := .fn (.func f) [A.enc x] []
  weak a x h := by
    split at h
    · rename_i f' a'
      cases hb : Nat.beq f' f with
      | false => simp [hb] at h
      | true =>
        simp only [hb, cond_true] at h
        have hf := Nat.eq_of_beq_eq_true hb
        subst hf
        intro M y hy
        unfold Rep at hy ⊢
        obtain ⟨l, c, rfl, h1, h2⟩ := hy
        refine ⟨l, c, rfl, ?_, h2⟩
        rw [RepL.cons_iff] at h1 ⊢
        obtain ⟨z, zs, e, h3, h4⟩ := h1
        exact ⟨z, zs, e, A.weak _ _ h _ _ h3, h4⟩
    · cases h
  rt x := by simp [A.rt]
theorem v135_run (x : Lb) (hb : okLb x = true) (hz : labM x = 0) :
  LoopRun (CS D2) 0 33 false (lO (CS D2) 135 0) (mkSt [1, 7, 16, 17, 18] [] 33 [.fn (.func 140) [lbA x] [], nilS, .rsl 3 (x.2.2.2.1.map tsC.enc) false, iA (Int.ofNat x.2.2.2.1.length), iA 0] []) (.exit 0) (mkSt [7] [] 33 [.rsl 1 ((chM x (covM x)).map strC.enc) false] []) := by
 have K := okLb_at hb
 have hlim := K.ts
 have hl := limTwo hlim
 exact LoopRun.pushes (C := CS D2) (p := 0) (nt := 33) (rd := false) (c := lO (CS D2) 135 0) strC.enc (chG (covM x)) (chG_le _) (key := 30) (sz := 1) (ts := [1, 7, 16, 17, 18]) (ks := []) (fun i a => [.fn (.func 140) [lbA x] [], a, .rsl 3 (x.2.2.2.1.map tsC.enc) false, iA (Int.ofNat x.2.2.2.1.length), iA (Int.ofNat i)]) (fun _ => [])
   (nf := 33) (ts2 := [7]) (fun a => [a]) (ex := .exit 0) x.2.2.2.1 (by simp) (by decide) (by decide) (fun _ => rfl) (fun _ => rfl)
   (fun es n hn => .cons (FzS.sl hn) .nil) (fun es n hn => .nil) (.cons Weak.nilSl .nil) .nil
   (fun i t ht hg => by
    have hi := lt_len ht
    have f := sp140 (x := x) hb hz hi
    rw [chG_no hg] at f
    have hr := v135na (x.1.map ptC.enc) (x.2.1.map ftC.enc) (x.2.2.1.map cbC.enc) (x.2.2.2.1.map tsC.enc) x.2.2.2.2.1 x.2.2.2.2.2 (x.2.2.2.1.map tsC.enc) x.2.2.2.1.length i false t.1 t.2.1 (t.2.2.map strC.enc)
    rw [wrap_ix hi hl] at hr
    exact D2_ok.rndN hr ⟨lt_of hi, get_map tsC.enc ht, ⟨rfl, f⟩, rfl, trivial, rfl⟩)
   (fun i t rs ht hg hc => by
    have hi := lt_len ht
    have f := sp140 (x := x) hb hz hi
    rw [chG_no hg] at f
    have hr := v135nb (x.1.map ptC.enc) (x.2.1.map ftC.enc) (x.2.2.1.map cbC.enc) (x.2.2.2.1.map tsC.enc) x.2.2.2.2.1 x.2.2.2.2.2 (x.2.2.2.1.map tsC.enc) x.2.2.2.1.length i rs rs.length false t.1 t.2.1 (t.2.2.map strC.enc)
    rw [wrap_ix hi hl] at hr
    exact D2_ok.rndN hr ⟨lt_of hi, get_map tsC.enc ht, ⟨rfl, f⟩, rfl, ⟨hc, trivial⟩, rfl⟩)
   (fun i t y ht hg => by
    have hi := lt_len ht
    obtain ⟨h1, rfl⟩ := chG_yes hg
    have f := sp140 (x := x) hb hz hi
    rw [h1] at f
    have hr := v135ya (x.1.map ptC.enc) (x.2.1.map ftC.enc) (x.2.2.1.map cbC.enc) (x.2.2.2.1.map tsC.enc) x.2.2.2.2.1 x.2.2.2.2.2 (x.2.2.2.1.map tsC.enc) x.2.2.2.1.length i true t.1 t.2.1 (t.2.2.map strC.enc)
    rw [wrap_ix hi hl] at hr
    exact D2_ok.rndN hr ⟨lt_of hi, get_map tsC.enc ht, ⟨rfl, f⟩, rfl, ⟨closedStr [t.1], trivial⟩, rfl⟩)
   (fun i t y rs ht hg hc hrs => by
    have hi := lt_len ht
    obtain ⟨h1, rfl⟩ := chG_yes hg
    have f := sp140 (x := x) hb hz hi
    rw [h1] at f
    have hlen : (rs ++ [strC.enc t.1]).length ≤ 1000001 := by rw [List.length_append]; unfold lim at hlim; simp; omega
    have hr := v135yb (x.1.map ptC.enc) (x.2.1.map ftC.enc) (x.2.2.1.map cbC.enc) (x.2.2.2.1.map tsC.enc) x.2.2.2.2.1 x.2.2.2.2.2 (x.2.2.2.1.map tsC.enc) x.2.2.2.1.length i rs rs.length true t.1 t.2.1 (t.2.2.map strC.enc)
    rw [wrap_ix hi hl] at hr
    exact D2_ok.rndN hr ⟨lt_of hi, get_map tsC.enc ht, ⟨rfl, f⟩, rfl, ⟨rfl, rfl, rfl, by show (rs ++ [strC.enc t.1]).length * 16 ≤ _; omega, by show (rs ++ [strC.enc t.1]).length ≤ _; omega, by decide⟩, ⟨hc.append (closedStr [t.1]), trivial⟩, rfl⟩)
   (D2_ok.rndX (v135xa (x.1.map ptC.enc) (x.2.1.map ftC.enc) (x.2.2.1.map cbC.enc) (x.2.2.2.1.map tsC.enc) x.2.2.2.2.1 x.2.2.2.2.2 (x.2.2.2.1.map tsC.enc) x.2.2.2.1.length x.2.2.2.1.length) ⟨lt_self _, trivial, rfl⟩)
   (fun rs hc => D2_ok.rndX (v135xb (x.1.map ptC.enc) (x.2.1.map ftC.enc) (x.2.2.1.map cbC.enc) (x.2.2.2.1.map tsC.enc) x.2.2.2.2.1 x.2.2.2.2.2 (x.2.2.2.1.map tsC.enc) x.2.2.2.1.length x.2.2.2.1.length rs rs.length) ⟨lt_self _, ⟨hc, trivial⟩, rfl⟩)
theorem v135_cmp (x : Lb) (hb : okLb x = true) : Cmp 135 [lbA x, .fn (.func 140) [lbA x] []] (.tup [slA strC 1 (ch135 x (covM x)), iA (labM x)]) := by
 unfold ch135
 cases he : labM x != 0 with
 | true => exact Comp.weak (D2_ok.tr (v135ta (x.1.map ptC.enc) (x.2.1.map ftC.enc) (x.2.2.1.map cbC.enc) (x.2.2.2.1.map tsC.enc) x.2.2.2.2.1 x.2.2.2.2.2 (labM x)) ⟨⟨rfl, spLab hb⟩, he, rfl⟩) WeakL.rfl tup_nil
 | false =>
  have hz : labM x = 0 := by simpa using he
  have h := v135_run x hb hz
  rw [← e_ts x.2.2.2.1] at h
  have := D2_ok.tr (v135tb (x.1.map ptC.enc) (x.2.1.map ftC.enc) (x.2.2.1.map cbC.enc) (x.2.2.2.1.map tsC.enc) x.2.2.2.2.1 x.2.2.2.2.2 (labM x) ((chM x (covM x)).map strC.enc)) ⟨⟨rfl, spLab hb⟩, he, ⟨trivial, trivial, h.says⟩, rfl⟩
  rw [hz]; exact this
noncomputable def ch140G : List AV → Option AV := sp2 labC (bndC 140 labC) fun x q => bif okLb x && eqC q x then some (.tup [slA strC 1 (ch135 x (covM x)), iA (labM x)]) else none
theorem h135v : Holds 135 ch140G := holds2 fun x q r hr => by
 cases hb : okLb x && eqC q x with
 | false => simp [hb] at hr
 | true =>
  simp only [hb, cond_true, Option.some.injEq] at hr; subst hr
  rw [Bool.and_eq_true] at hb
  have e : q = x := eqC_of hb.2
  subst e
  exact v135_cmp q hb.1
theorem bnd_ne {α β : Type} {A : Cod α} {R : RC β} {f g : FuncId} {F : α → β → Option AV} {a b : AV} : sp2 A (cloR f R) F [a, .fn (.func g) [b] []] = none := by
 have hd : (cloR f R).dec (.fn (.func g) [b] []) = none := rfl
 simp only [sp2, hd]
 cases A.dec a <;> rfl
theorem spCh140 {x : Lb} (h : okLb x = true) : orG ch136G ch140G [lbA x, .fn (.func 140) [lbA x] []] = some (.tup [slA strC 1 (ch135 x (covM x)), iA (labM x)]) := or_r (bnd_ne) (by
 have := sp2_at (A := labC) (B := bndC 140 labC) (F := fun x q => bif okLb x && eqC q x then some (.tup [slA strC 1 (ch135 x (covM x)), iA (labM x)]) else none) x x
 rw [h, eqC_self] at this; exact this)
noncomputable def D3 : Specs := (D2.set 135 (orG ch136G ch140G))
theorem D3_ok : Ok D3 := (D2_ok.set (holds_or h135u h135v))
end Go.Vm.S3

namespace Go.Vm.S3
open Go.Proofs Go.RowKit
set_option maxRecDepth 100000
variable (ps fs cs ts : List AV) (d u : Int)
set_option maxRecDepth 20000
theorem t59 (rs : List AV) (e : Int) : L D3 59 [lbE ps fs cs ts d u] [.sp [lbE ps fs cs ts d u, .fn (.func 140) [lbE ps fs cs ts d u] []] (.tup [.rsl 1 rs false, iA e])] [.f 135] (.tup [.rsl 1 rs false, iA e]) := kr (by kernel_rfl)
def cv59G : List AV → Option AV := sp1 labC fun x => bif okLb x then some (.tup [slA strC 1 (ch135 x (covM x)), iA (labM x)]) else none
theorem h59 : Holds 59 cv59G := holds1 fun x r hr => by
 cases hb : okLb x with
 | false => simp [hb] at hr
 | true =>
  simp only [hb, cond_true, Option.some.injEq] at hr; subst hr
  exact D3_ok.tr ((lx x t59) _ _) ⟨⟨rfl, spCh140 hb⟩, rfl⟩
noncomputable def D4 : Specs := (D3.set 59 cv59G)
theorem D4_ok : Ok D4 := (D3_ok.set h59)
end Go.Vm.S3

namespace Go.Vm.S3
open Go.Proofs Go.RowKit
set_option maxRecDepth 100000
variable (ps fs cs ts : List AV) (d u : Int)
set_option maxRecDepth 20000
theorem t205a (a b c : ByteArray) (n : Int) (us : List AV) (a0 b0 c0 : ByteArray) (n0 : Int) (us0 : List AV) (ta : ByteArray) (tn : Int) (ws : List AV) : L D4 205 [.agg [sA a, sA b, sA c, iA n, .rsl 1 us false], .rptr [sA a0, sA b0, sA c0, iA n0, .rsl 1 us0 false], .rptr [sA ta, iA tn, .rsl 1 ws false], .rptr [.rsl 7 ps false, .rsl 3 fs false, .rsl 5 cs false, .rsl 3 ts false, iA d, iA u]] [.as 11 false] [.b (b.toList == b0.toList)] (bA false) := kr (by kernel_rfl)
abbrev cD5_8 (ps fs cs ts : List AV) (d u : Int) (a b c : ByteArray) (n : Int) (us : List AV) (a0 b0 c0 : ByteArray) (n0 : Int) (us0 : List AV) (ta : ByteArray) (tn : Int) (ws : List AV) (h9 : List Hn) (a9 : List An) (r9 : AV) : Prop := L D4 205 [.agg [sA a, sA b, sA c, iA n, .rsl 1 us false], .rptr [sA a0, sA b0, sA c0, iA n0, .rsl 1 us0 false], .rptr [sA ta, iA tn, .rsl 1 ws false], .rptr [.rsl 7 ps false, .rsl 3 fs false, .rsl 5 cs false, .rsl 3 ts false, iA d, iA u]] ([.as 11 true] ++ h9) ([.b (b.toList == b0.toList)] ++ a9) r9
theorem t205b (a b c : ByteArray) (n : Int) (us : List AV) (a0 b0 c0 : ByteArray) (n0 : Int) (us0 : List AV) (ta : ByteArray) (tn : Int) (ws : List AV) : cD5_8 ps fs cs ts d u a b c n us a0 b0 c0 n0 us0 ta tn ws [.as 18 false] [.b (c.toList == c0.toList)] (bA false) := kr (by kernel_rfl)
theorem t205c (a b c : ByteArray) (n : Int) (us : List AV) (a0 b0 c0 : ByteArray) (n0 : Int) (us0 : List AV) (ta : ByteArray) (tn : Int) (ws : List AV) : cD5_8 ps fs cs ts d u a b c n us a0 b0 c0 n0 us0 ta tn ws [.as 18 true, .as 25 false] [.b (c.toList == c0.toList), .b (decide (n > tn))] (bA false) := kr (by kernel_rfl)
theorem t205d (a b c : ByteArray) (n : Int) (us : List AV) (a0 b0 c0 : ByteArray) (n0 : Int) (us0 : List AV) (ta : ByteArray) (tn : Int) (ws : List AV) (q : Bool) : cD5_8 ps fs cs ts d u a b c n us a0 b0 c0 n0 us0 ta tn ws [.as 18 true, .as 25 true, .sp [lbE ps fs cs ts d u, .agg [sA a, sA b, sA c, iA n, .rsl 1 us false]] (bA q)] [.b (c.toList == c0.toList), .b (decide (n > tn)), .f 115] (bA q) := kr (by kernel_rfl)
def othM (ps : List Pt) (c : Cb) (day : Int) (o : Cb) : Bool := bif seq o.2.1 c.2.1 then bif seq o.2.2.1 c.2.2.1 then bif goodM ps o then decide (o.2.2.2.1 > day) else false else false else false
def oth205G : List AV → Option AV := sp4 cbC (rptrR cbR) (rptrR tsR) (rptrR labR) fun o c t x => bif okLb x && okCal x o then some (bA (othM x.1 c t.2.1 o)) else none
theorem spGd {x : Lb} {c : Cb} (h1 : okLb x = true) (h : okCal x c = true) : goodG [lbA x, cbA c] = some (bA (goodM x.1 c)) := by
 unfold okCal at h
 simp only [Bool.and_eq_true, decide_eq_true_eq] at h
 exact spGood h1 h.1 h.2.1 h.2.2
theorem h205 : Holds 205 oth205G := holds4 fun o c t x r hr => by
 cases hb : okLb x && okCal x o with
 | false => simp [hb] at hr
 | true =>
  simp only [hb, cond_true, Option.some.injEq] at hr; subst hr
  rw [Bool.and_eq_true] at hb
  have hs := spGd hb.1 hb.2
  unfold othM
  cases h1 : seq o.2.1 c.2.1 with
  | false => exact D4_ok.tr ((lx x t205a) o.1 o.2.1 o.2.2.1 o.2.2.2.1 (o.2.2.2.2.map intC.enc) c.1 c.2.1 c.2.2.1 c.2.2.2.1 (c.2.2.2.2.map intC.enc) t.1 t.2.1 (t.2.2.map strC.enc)) ⟨h1, rfl⟩
  | true =>
   cases h2 : seq o.2.2.1 c.2.2.1 with
   | false => exact D4_ok.tr ((lx x t205b) o.1 o.2.1 o.2.2.1 o.2.2.2.1 (o.2.2.2.2.map intC.enc) c.1 c.2.1 c.2.2.1 c.2.2.2.1 (c.2.2.2.2.map intC.enc) t.1 t.2.1 (t.2.2.map strC.enc)) ⟨h1, h2, rfl⟩
   | true =>
    cases h3 : decide (o.2.2.2.1 > t.2.1) with
    | false =>
     rw [show (bif goodM x.1 o then false else false) = false by cases goodM x.1 o <;> rfl]
     exact D4_ok.tr ((lx x t205c) o.1 o.2.1 o.2.2.1 o.2.2.2.1 (o.2.2.2.2.map intC.enc) c.1 c.2.1 c.2.2.1 c.2.2.2.1 (c.2.2.2.2.map intC.enc) t.1 t.2.1 (t.2.2.map strC.enc)) ⟨h1, h2, h3, rfl⟩
    | true =>
     rw [show (bif goodM x.1 o then true else false) = goodM x.1 o by cases goodM x.1 o <;> rfl]
     exact D4_ok.tr ((lx x t205d) o.1 o.2.1 o.2.2.1 o.2.2.2.1 (o.2.2.2.2.map intC.enc) c.1 c.2.1 c.2.2.1 c.2.2.2.1 (c.2.2.2.2.map intC.enc) t.1 t.2.1 (t.2.2.map strC.enc) _) ⟨h1, h2, h3, ⟨rfl, hs⟩, rfl⟩
theorem sp205 {x : Lb} {o : Cb} (c : Cb) (t : Ts) (h1 : okLb x = true) (h : okCal x o = true) : oth205G [cbA o, .rptr (cbR.encs c), .rptr (tsR.encs t), lbRA x] = some (bA (othM x.1 c t.2.1 o)) := by
 have := sp4_at (A := cbC) (B := rptrR cbR) (D := rptrR tsR) (E := rptrR labR) (F := fun o c t x => bif okLb x && okCal x o then some (bA (othM x.1 c t.2.1 o)) else none) o c t x
 rw [h1, h] at this; exact this
noncomputable def D5 : Specs := (D4.set 205 oth205G)
theorem D5_ok : Ok D5 := (D4_ok.set h205)
end Go.Vm.S3

namespace Go.Vm.S3
open Go.Proofs Go.RowKit
set_option maxRecDepth 100000
variable (ps fs cs ts : List AV) (d u : Int)
set_option maxRecDepth 20000
abbrev cD6_9 (ps fs cs ts : List AV) (d u : Int) (a0 b0 c0 : ByteArray) (n0 : Int) (us0 : List AV) (ta : ByteArray) (tn : Int) (ws es : List AV) (m i : Nat) (a b c : ByteArray) (n : Int) (us : List AV) (q : Bool) (h9 : List Hn) (a9 : List An) (x9 : Ex) (v9 : List AV) (e9 : List (Bool × Blk)) : Prop := Lq D5 0 186 9 19 28 0 [0, 1, 7, 8] [] [0, 1, 7, 8] [] [4] [] [.rsl 5 es false, .fn (.func 205) [] [.rptr [sA a0, sA b0, sA c0, iA n0, .rsl 1 us0 false], .rptr [sA ta, iA tn, .rsl 1 ws false], .rptr [.rsl 7 ps false, .rsl 3 fs false, .rsl 5 cs false, .rsl 3 ts false, iA d, iA u]], iA (Int.ofNat m), iA (Int.ofNat i)] [] ([.as 9 true, .chk [.agg [sA a, sA b, sA c, iA n, .rsl 1 us false]], .sp [.agg [sA a, sA b, sA c, iA n, .rsl 1 us false], .rptr [sA a0, sA b0, sA c0, iA n0, .rsl 1 us0 false], .rptr [sA ta, iA tn, .rsl 1 ws false], .rptr [.rsl 7 ps false, .rsl 3 fs false, .rsl 5 cs false, .rsl 3 ts false, iA d, iA u]] (bA q)] ++ h9) ([.t i m, .g es i, .f 205] ++ a9) x9 v9 e9
theorem k205n (a0 b0 c0 : ByteArray) (n0 : Int) (us0 : List AV) (ta : ByteArray) (tn : Int) (ws : List AV) (es : List AV) (m i : Nat) (a b c : ByteArray) (n : Int) (us : List AV) (q : Bool) : cD6_9 ps fs cs ts d u a0 b0 c0 n0 us0 ta tn ws es m i a b c n us q [.as 16 false] [.b q] .nrm [.rsl 5 es false, .fn (Fn.func 205) [] [.rptr [sA a0, sA b0, sA c0, iA n0, .rsl 1 us0 false], .rptr [sA ta, iA tn, .rsl 1 ws false], .rptr [.rsl 7 ps false, .rsl 3 fs false, .rsl 5 cs false, .rsl 3 ts false, iA d, iA u]], iA (Int.ofNat m), iA (IntKind.i64.wrap (Int.ofNat i + 1))] [] := kq (by kernel_rfl)
theorem k205y (a0 b0 c0 : ByteArray) (n0 : Int) (us0 : List AV) (ta : ByteArray) (tn : Int) (ws : List AV) (es : List AV) (m i : Nat) (a b c : ByteArray) (n : Int) (us : List AV) (q : Bool) : cD6_9 ps fs cs ts d u a0 b0 c0 n0 us0 ta tn ws es m i a b c n us q [.as 16 true] [.b q] .ret [iA (Int.ofNat i)] [] := kq (by kernel_rfl)
theorem k205x (a0 b0 c0 : ByteArray) (n0 : Int) (us0 : List AV) (ta : ByteArray) (tn : Int) (ws : List AV) (es : List AV) (m i : Nat) : Lq D5 0 186 9 19 28 0 [0, 1, 7, 8] [] [0, 1, 7, 8] [] [] [] [.rsl 5 es false, .fn (.func 205) [] [.rptr [sA a0, sA b0, sA c0, iA n0, .rsl 1 us0 false], .rptr [sA ta, iA tn, .rsl 1 ws false], .rptr [.rsl 7 ps false, .rsl 3 fs false, .rsl 5 cs false, .rsl 3 ts false, iA d, iA u]], iA (Int.ofNat m), iA (Int.ofNat i)] [] [.as 9 false] [.t i m] (.exit 0) [] [] := kq (by kernel_rfl)
theorem k205tr (a0 b0 c0 : ByteArray) (n0 : Int) (us0 : List AV) (ta : ByteArray) (tn : Int) (ws : List AV) (es : List AV) (t : Int) : L D5 191 [.rsl 5 es false, .fn (.func 205) [] [.rptr [sA a0, sA b0, sA c0, iA n0, .rsl 1 us0 false], .rptr [sA ta, iA tn, .rsl 1 ws false], .rptr [.rsl 7 ps false, .rsl 3 fs false, .rsl 5 cs false, .rsl 3 ts false, iA d, iA u]]] [.il, .loop 0 [0, 1, 7, 8] [] [4] [] .ret [iA t] []] [.s, .l 19 186 0 28 [.rsl 5 es false, .fn (Fn.func 205) [] [.rptr [sA a0, sA b0, sA c0, iA n0, .rsl 1 us0 false], .rptr [sA ta, iA tn, .rsl 1 ws false], .rptr [.rsl 7 ps false, .rsl 3 fs false, .rsl 5 cs false, .rsl 3 ts false, iA d, iA u]], iA (Int.ofNat es.length), iA 0] []] (bA (decide (t ≥ 0))) := kr (by kernel_rfl)
theorem k205te (a0 b0 c0 : ByteArray) (n0 : Int) (us0 : List AV) (ta : ByteArray) (tn : Int) (ws : List AV) (es : List AV) : L D5 191 [.rsl 5 es false, .fn (.func 205) [] [.rptr [sA a0, sA b0, sA c0, iA n0, .rsl 1 us0 false], .rptr [sA ta, iA tn, .rsl 1 ws false], .rptr [.rsl 7 ps false, .rsl 3 fs false, .rsl 5 cs false, .rsl 3 ts false, iA d, iA u]]] [.il, .loop 0 [0, 1, 7, 8] [] [] [] (.exit 0) [] []] [.s, .l 19 186 0 28 [.rsl 5 es false, .fn (Fn.func 205) [] [.rptr [sA a0, sA b0, sA c0, iA n0, .rsl 1 us0 false], .rptr [sA ta, iA tn, .rsl 1 ws false], .rptr [.rsl 7 ps false, .rsl 3 fs false, .rsl 5 cs false, .rsl 3 ts false, iA d, iA u]], iA (Int.ofNat es.length), iA 0] []] (bA (decide (-1 ≥ 0))) := kr (by kernel_rfl)
theorem k205_cmp {x : Lb} (c : Cb) (t : Ts) (l : List Cb) (hok : okLb x = true) (hal : ∀ o ∈ l, okCal x o = true) (hl : l.length < two63) : Cmp 191 [slA cbC 5 l, .fn (.func 205) [] [.rptr (cbR.encs c), .rptr (tsR.encs t), lbRA x]] (bA (l.any (othM x.1 c t.2.1))) := by
 have e : Int.ofNat (l.map cbC.enc).length = Int.ofNat l.length := by simp
 have h := LoopRun.find (C := CS D5) (p := 0) (nt := 19) (rd := false) (c := lO (CS D5) 186 0) (fun i (z9 : Cb) => bif (othM x.1 c t.2.1) z9 then some (Int.ofNat i) else none) (fun i => mkSt [0, 1, 7, 8] [] 28 [.rsl 5 (l.map cbC.enc) false, .fn (.func 205) [] [.rptr (cbR.encs c), .rptr (tsR.encs t), lbRA x], iA (Int.ofNat l.length), iA (Int.ofNat i)] [])
  (fun t => mkSt [4] [] 28 [iA t] []) (mkSt [] [] 28 [] []) (.exit 0) (fun _ => .ret) l (by simp) (by simp)
  (fun i o hx => by
   have hi := lt_len hx
   have hs := sp205 c t hok (hal o (List.mem_of_getElem? hx))
   cases h : (othM x.1 c t.2.1) o with
   | true =>
    rw [h] at hs
    exact D5_ok.rndR (k205y (x.1.map ptC.enc) (x.2.1.map ftC.enc) (x.2.2.1.map cbC.enc) (x.2.2.2.1.map tsC.enc) x.2.2.2.2.1 x.2.2.2.2.2 c.1 c.2.1 c.2.2.1 c.2.2.2.1 (c.2.2.2.2.map intC.enc) t.1 t.2.1 (t.2.2.map strC.enc) (l.map cbC.enc) l.length i o.1 o.2.1 o.2.2.1 o.2.2.2.1 (o.2.2.2.2.map intC.enc) true) ⟨lt_of hi, get_map cbC.enc hx, ⟨rfl, hs⟩, rfl, trivial, rfl⟩
   | false =>
    rw [h] at hs
    have hr := k205n (x.1.map ptC.enc) (x.2.1.map ftC.enc) (x.2.2.1.map cbC.enc) (x.2.2.2.1.map tsC.enc) x.2.2.2.2.1 x.2.2.2.2.2 c.1 c.2.1 c.2.2.1 c.2.2.2.1 (c.2.2.2.2.map intC.enc) t.1 t.2.1 (t.2.2.map strC.enc) (l.map cbC.enc) l.length i o.1 o.2.1 o.2.2.1 o.2.2.2.1 (o.2.2.2.2.map intC.enc) false
    rw [wrap_ix hi hl] at hr
    exact D5_ok.rndN hr ⟨lt_of hi, get_map cbC.enc hx, ⟨rfl, hs⟩, rfl, trivial, rfl⟩)
  (D5_ok.rndX (k205x (x.1.map ptC.enc) (x.2.1.map ftC.enc) (x.2.2.1.map cbC.enc) (x.2.2.2.1.map tsC.enc) x.2.2.2.2.1 x.2.2.2.2.2 c.1 c.2.1 c.2.2.1 c.2.2.2.1 (c.2.2.2.2.map intC.enc) t.1 t.2.1 (t.2.2.map strC.enc) (l.map cbC.enc) l.length l.length) ⟨lt_self _, trivial, rfl⟩)
 rw [← e] at h
 rcases srch_anyN (othM x.1 c t.2.1) l 0 with ⟨h1, h2⟩ | ⟨k, h1, h2⟩
 ·rw [h1] at h
  rw [h2]
  exact D5_ok.tr (k205te (x.1.map ptC.enc) (x.2.1.map ftC.enc) (x.2.2.1.map cbC.enc) (x.2.2.2.1.map tsC.enc) x.2.2.2.2.1 x.2.2.2.2.2 c.1 c.2.1 c.2.2.1 c.2.2.2.1 (c.2.2.2.2.map intC.enc) t.1 t.2.1 (t.2.2.map strC.enc) (l.map cbC.enc)) ⟨⟨trivial, trivial, h.says⟩, rfl⟩
 ·rw [h1] at h
  rw [h2, show bA true = bA (decide (Int.ofNat k ≥ 0)) by rw [decide_eq_true (by simp)]]
  exact D5_ok.tr (k205tr (x.1.map ptC.enc) (x.2.1.map ftC.enc) (x.2.2.1.map cbC.enc) (x.2.2.2.1.map tsC.enc) x.2.2.2.2.1 x.2.2.2.2.2 c.1 c.2.1 c.2.2.1 c.2.2.2.1 (c.2.2.2.2.map intC.enc) t.1 t.2.1 (t.2.2.map strC.enc) (l.map cbC.enc) (Int.ofNat k)) ⟨⟨trivial, trivial, h.says⟩, rfl⟩
def kn205G : List AV → Option AV := sp2 cbsC (cloR 205 (RC.cons (rptrR cbR) (RC.cons (rptrR tsR) (RC.one (rptrR labR))))) fun l q => bif okLb q.2.2 && (Nat.ble l.length lim && l.all (okCal q.2.2)) then some (bA (l.any (othM q.2.2.1 q.1 q.2.1.2.1))) else none
theorem h191b : Holds 191 kn205G := holds2 fun l q r hr => by
 cases hb : okLb q.2.2 && (Nat.ble l.length lim && l.all (okCal q.2.2)) with
 | false => simp [hb] at hr
 | true =>
  simp only [hb, cond_true, Option.some.injEq] at hr; subst hr
  simp only [Bool.and_eq_true, List.all_eq_true] at hb
  exact k205_cmp q.1 q.2.1 l hb.1 hb.2.2 (limTwo (Nat.le_of_ble_eq_true hb.2.1))
theorem clc_ne {α γ : Type} {A : Cod α} {B : Cod γ} {f g : FuncId} {F : α → γ → Option AV} {a b : AV} {l : List AV} (h : Nat.beq g f = false) : sp2 A (cloC f B) F [a, .fn (.func g) [] (b :: l)] = none := by
 have hd : (cloC f B).dec (.fn (.func g) [] (b :: l)) = none := by
  cases l with
  | nil =>
   show (bif Nat.beq g f then B.dec b else none) = none
   rw [h]; rfl
  | cons c l => rfl
 simp only [sp2, hd]
 cases A.dec a <;> rfl
theorem sp191 {x : Lb} (c : Cb) (t : Ts) {l : List Cb} (hok : okLb x = true) (hl : Nat.ble l.length lim = true) (hal : ∀ o ∈ l, okCal x o = true) : orG has192G kn205G [slA cbC 5 l, .fn (.func 205) [] [.rptr (cbR.encs c), .rptr (tsR.encs t), lbRA x]] = some (bA (l.any (othM x.1 c t.2.1))) := or_r (clc_ne rfl) (by
 have := sp2_at (A := cbsC) (B := cloR 205 (RC.cons (rptrR cbR) (RC.cons (rptrR tsR) (RC.one (rptrR labR))))) (F := fun l q => bif okLb q.2.2 && (Nat.ble l.length lim && l.all (okCal q.2.2)) then some (bA (l.any (othM q.2.2.1 q.1 q.2.1.2.1))) else none) l (c, t, x)
 rw [hok, hl, List.all_eq_true.2 hal] at this; exact this)
noncomputable def D6 : Specs := (D5.set 191 (orG has192G kn205G))
theorem D6_ok : Ok D6 := (D5_ok.set (holds_or h191 h191b))
end Go.Vm.S3

namespace Go.Vm.S3
open Go.Proofs Go.RowKit
set_option maxRecDepth 100000
variable (ps fs cs ts : List AV) (d u : Int)
set_option maxRecDepth 20000
theorem t142a (ta : ByteArray) (tn : Int) (ws : List AV) (k : Nat) (a b c : ByteArray) (n : Int) (us : List AV) : L D6 142 [lbE ps fs cs ts d u, iA (Int.ofNat k), .agg [sA ta, iA tn, .rsl 1 ws false]] [.chk [.agg [sA a, sA b, sA c, iA n, .rsl 1 us false]], .sp [lbE ps fs cs ts d u, .agg [sA a, sA b, sA c, iA n, .rsl 1 us false]] (bA true)] [.g cs k, .f 115] (bA false) := kr (by kernel_rfl)
abbrev cD7_10 (ps fs cs ts : List AV) (d u : Int) (ta : ByteArray) (tn : Int) (ws : List AV) (k : Nat) (a b c : ByteArray) (n : Int) (us : List AV) (h9 : List Hn) (a9 : List An) (r9 : AV) : Prop := L D6 142 [lbE ps fs cs ts d u, iA (Int.ofNat k), .agg [sA ta, iA tn, .rsl 1 ws false]] ([.chk [.agg [sA a, sA b, sA c, iA n, .rsl 1 us false]], .sp [lbE ps fs cs ts d u, .agg [sA a, sA b, sA c, iA n, .rsl 1 us false]] (bA false)] ++ h9) ([.g cs k, .f 115] ++ a9) r9
theorem t142b (ta : ByteArray) (tn : Int) (ws : List AV) (k : Nat) (a b c : ByteArray) (n : Int) (us : List AV) : cD7_10 ps fs cs ts d u ta tn ws k a b c n us [.sp [.rsl 1 ws false, sA b] (bA false)] [.f 137] (bA false) := kr (by kernel_rfl)
theorem t142c (ta : ByteArray) (tn : Int) (ws : List AV) (k : Nat) (a b c : ByteArray) (n : Int) (us : List AV) (w : ByteArray) : cD7_10 ps fs cs ts d u ta tn ws k a b c n us [.sp [.rsl 1 ws false, sA b] (bA true), .sp [lbE ps fs cs ts d u, sA b, iA tn] (sA w), .as 35 true] [.f 137, .f 113, .b (!(w.toList == c.toList))] (bA false) := kr (by kernel_rfl)
theorem t142d (ta : ByteArray) (tn : Int) (ws : List AV) (k : Nat) (a b c : ByteArray) (n : Int) (us : List AV) (w : ByteArray) : cD7_10 ps fs cs ts d u ta tn ws k a b c n us [.sp [.rsl 1 ws false, sA b] (bA true), .sp [lbE ps fs cs ts d u, sA b, iA tn] (sA w), .as 35 false, .as 41 true] [.f 137, .f 113, .b (!(w.toList == c.toList)), .b (decide (tn ≥ n))] (bA false) := kr (by kernel_rfl)
theorem t142e (ta : ByteArray) (tn : Int) (ws : List AV) (k : Nat) (a b c : ByteArray) (n : Int) (us : List AV) (w : ByteArray) (es1 : List AV) (q : Bool) : cD7_10 ps fs cs ts d u ta tn ws k a b c n us [.sp [.rsl 1 ws false, sA b] (bA true), .sp [lbE ps fs cs ts d u, sA b, iA tn] (sA w), .as 35 false, .as 41 false, .chk [], .sp [.rsl 5 es1 false, .fn (.func 205) [] [.rptr [sA a, sA b, sA c, iA n, .rsl 1 us false], .rptr [sA ta, iA tn, .rsl 1 ws false], .rptr [.rsl 7 ps false, .rsl 3 fs false, .rsl 5 cs false, .rsl 3 ts false, iA d, iA u]]] (bA q)] [.f 137, .f 113, .b (!(w.toList == c.toList)), .b (decide (tn ≥ n)), .k (0 ≤ k ∧ k ≤ cs.length), .r 191 [.rsl 5 (List.take (k - 0) (List.drop 0 cs)) false, .fn (Fn.func 205) [] [.rptr [sA a, sA b, sA c, iA n, .rsl 1 us false], .rptr [sA ta, iA tn, .rsl 1 ws false], .rptr [.rsl 7 ps false, .rsl 3 fs false, .rsl 5 cs false, .rsl 3 ts false, iA d, iA u]]]] (bA !q) := kr (by kernel_rfl)
theorem cal_ok {x : Lb} (hz : labM x = 0) {o : Cb} (h : o ∈ x.2.2.1) : okCal x o = true := by
 have G := labM_zero hz
 obtain ⟨i, hi, rfl⟩ := List.mem_iff_getElem.1 h
 obtain ⟨e1, e2, _⟩ := calM_zero (G.cs i _ (List.getElem?_eq_getElem hi))
 obtain ⟨_, _, e3, _, _⟩ := calE_zero e1
 unfold okCal
 rw [decide_eq_true G.ps, e3, decide_eq_true e2]; rfl
def qsM (x : Lb) (t : Ts) (k : Nat) : Bool :=
 bif !hasWordM t.2.2 (cbAt x k).2.1 then false else bif !seq (specM x.2.1 (cbAt x k).2.1 t.2.1) (cbAt x k).2.2.1 then false else bif decide (t.2.1 ≥ (cbAt x k).2.2.2.1) then false else !(x.2.2.1.take k).any (othM x.1 (cbAt x k) t.2.1)
def dbM (x : Lb) (t : Ts) (k : Nat) : Bool := bif goodM x.1 (cbAt x k) then false else qsM x t k
def in142 (x : Lb) (k : Int) (t : Ts) : Bool := okLb x && (okT t && (decide (labM x = 0) && (decide (0 ≤ k) && decide (k.toNat < x.2.2.1.length))))
def db142G : List AV → Option AV := sp3 labC intC tsC fun x k t => bif in142 x k t then some (bA (dbM x t k.toNat)) else none
theorem in142_at {x : Lb} {k : Int} {t : Ts} (h : in142 x k t = true) : okLb x = true ∧ okT t = true ∧ labM x = 0 ∧ ∃ j : Nat, k = Int.ofNat j ∧ j < x.2.2.1.length := by
 unfold in142 at h
 simp only [Bool.and_eq_true, decide_eq_true_eq] at h
 obtain ⟨h1, h2, h3, h4, h5⟩ := h
 obtain ⟨j, rfl⟩ := Int.eq_ofNat_of_zero_le h4
 exact ⟨h1, h2, h3, j, rfl, by simpa using h5⟩
theorem takeC {x : Lb} {k : Nat} (hk : k < x.2.2.1.length) (hok : okLb x = true) : Nat.ble (x.2.2.1.take k).length lim = true := Nat.ble_eq_true_of_le (by have := (okLb_at hok).cs; rw [List.length_take]; omega)
theorem h142 : Holds 142 db142G := holds3 fun x k t r hr => by
 cases hb : in142 x k t with
 | false => simp [hb] at hr
 | true =>
  simp only [hb, cond_true, Option.some.injEq] at hr; subst hr
  obtain ⟨hok, hT, hz, j, rfl, hj⟩ := in142_at hb
  have hg := cbAt_get hj
  have hgm := get_map cbC.enc hg
  have fg := spGd hok (cal_ok hz (List.mem_of_getElem? hg))
  have fh := spHw (l := t.2.2) (cbAt x j).2.1 (Nat.ble_eq_true_of_le (limTwo (Nat.le_of_ble_eq_true hT)))
  have fs := spSpec (x := x) (cbAt x j).2.1 t.2.1 hok
  show Cmp 142 [lbA x, iA (Int.ofNat j), tsA t] (bA (dbM x t j))
  unfold dbM qsM
  have f191 := sp191 (x := x) (cbAt x j) t hok (takeC hj hok) (fun o ho => cal_ok hz (List.mem_of_mem_take ho))
  have q1 : (0 ≤ j ∧ j ≤ (x.2.2.1.map cbC.enc).length) := ⟨Nat.zero_le _, by rw [List.length_map]; omega⟩
  have q2 : AV.rsl 5 (List.take (j - 0) (List.drop 0 (x.2.2.1.map cbC.enc))) false = slA cbC 5 (x.2.2.1.take j) := by rw [take_map]; rfl
  generalize cbAt x j = c at *
  cases h1 : goodM x.1 c with
  | true => rw [h1] at fg; exact D6_ok.tr ((lx x t142a) t.1 t.2.1 (t.2.2.map strC.enc) j c.1 c.2.1 c.2.2.1 c.2.2.2.1 (c.2.2.2.2.map intC.enc)) ⟨hgm, ⟨rfl, fg⟩, rfl⟩
  | false =>
   rw [h1] at fg
   cases h2 : hasWordM t.2.2 c.2.1 with
   | false => rw [h2] at fh; exact D6_ok.tr ((lx x t142b) t.1 t.2.1 (t.2.2.map strC.enc) j c.1 c.2.1 c.2.2.1 c.2.2.2.1 (c.2.2.2.2.map intC.enc)) ⟨hgm, ⟨rfl, fg⟩, ⟨rfl, fh⟩, rfl⟩
   | true =>
    rw [h2] at fh
    cases h3 : !seq (specM x.2.1 c.2.1 t.2.1) c.2.2.1 with
    | true => exact D6_ok.tr ((lx x t142c) t.1 t.2.1 (t.2.2.map strC.enc) j c.1 c.2.1 c.2.2.1 c.2.2.2.1 (c.2.2.2.2.map intC.enc) (specM x.2.1 c.2.1 t.2.1)) ⟨hgm, ⟨rfl, fg⟩, ⟨rfl, fh⟩, ⟨rfl, fs⟩, h3, rfl⟩
    | false =>
     cases h4 : decide (t.2.1 ≥ c.2.2.2.1) with
     | true => exact D6_ok.tr ((lx x t142d) t.1 t.2.1 (t.2.2.map strC.enc) j c.1 c.2.1 c.2.2.1 c.2.2.2.1 (c.2.2.2.2.map intC.enc) (specM x.2.1 c.2.1 t.2.1)) ⟨hgm, ⟨rfl, fg⟩, ⟨rfl, fh⟩, ⟨rfl, fs⟩, h3, h4, rfl⟩
     | false =>
      exact D6_ok.tr ((lx x t142e) t.1 t.2.1 (t.2.2.map strC.enc) j c.1 c.2.1 c.2.2.1 c.2.2.2.1 (c.2.2.2.2.map intC.enc) (specM x.2.1 c.2.1 t.2.1) ((x.2.2.1.take j).map cbC.enc) _) ⟨hgm, ⟨rfl, fg⟩, ⟨rfl, fh⟩, ⟨rfl, fs⟩, h3, h4, q1, ⟨by rw [q2]; rfl, f191⟩, rfl⟩
theorem sp142 {x : Lb} {t : Ts} {k : Nat} (hok : okLb x = true) (hT : okT t = true) (hz : labM x = 0) (hk : k < x.2.2.1.length) : db142G [lbA x, iA (Int.ofNat k), tsA t] = some (bA (dbM x t k)) := by
 have := sp3_at (A := labC) (B := intC) (D := tsC) (F := fun x k t => bif in142 x k t then some (bA (dbM x t k.toNat)) else none) x (Int.ofNat k) t
 rw [show in142 x (Int.ofNat k) t = true by unfold in142; rw [hok, hT, decide_eq_true hz, show decide ((0 : Int) ≤ Int.ofNat k) = true from decide_eq_true (by simp), show (Int.ofNat k).toNat = k from rfl, decide_eq_true hk]; rfl] at this
 exact this
noncomputable def D7 : Specs := (D6.set 142 db142G)
theorem D7_ok : Ok D7 := (D6_ok.set h142)
end Go.Vm.S3

namespace Go.Vm.S3
open Go.Proofs Go.RowKit
set_option maxRecDepth 100000
variable (ps fs cs ts : List AV) (d u : Int)
set_option maxRecDepth 20000
theorem r141n (k m i : Nat) (ta : ByteArray) (tn : Int) (ws : List AV) : Lr D7 141 20 0 [0, 1, 7, 8] [] [0, 1, 7, 8] [] [] [] [iA (Int.ofNat k), .rptr [.rsl 7 ps false, .rsl 3 fs false, .rsl 5 cs false, .rsl 3 ts false, iA d, iA u], iA (Int.ofNat m), iA (Int.ofNat i)] [] [.as 9 true, .chk [.agg [sA ta, iA tn, .rsl 1 ws false]], .sp [lbE ps fs cs ts d u, iA (Int.ofNat i), .agg [sA ta, iA tn, .rsl 1 ws false]] (bA false)] [.t i m, .g ts k, .f 142] .nrm [iA (Int.ofNat k), .rptr [.rsl 7 ps false, .rsl 3 fs false, .rsl 5 cs false, .rsl 3 ts false, iA d, iA u], iA (Int.ofNat m), iA (IntKind.i64.wrap (Int.ofNat i + 1))] [] := kn (by kernel_rfl)
theorem r141y (k m i : Nat) (ta : ByteArray) (tn : Int) (ws : List AV) : Lr D7 141 20 0 [0, 1, 7, 8] [] [0, 1, 7, 8] [] [3] [] [iA (Int.ofNat k), .rptr [.rsl 7 ps false, .rsl 3 fs false, .rsl 5 cs false, .rsl 3 ts false, iA d, iA u], iA (Int.ofNat m), iA (Int.ofNat i)] [] [.as 9 true, .chk [.agg [sA ta, iA tn, .rsl 1 ws false]], .sp [lbE ps fs cs ts d u, iA (Int.ofNat i), .agg [sA ta, iA tn, .rsl 1 ws false]] (bA true)] [.t i m, .g ts k, .f 142] .ret [bA true] [] := kn (by kernel_rfl)
theorem r141x (k m i : Nat) : Lr D7 141 20 0 [0, 1, 7, 8] [] [0, 1, 7, 8] [] [] [] [iA (Int.ofNat k), .rptr [.rsl 7 ps false, .rsl 3 fs false, .rsl 5 cs false, .rsl 3 ts false, iA d, iA u], iA (Int.ofNat m), iA (Int.ofNat i)] [] [.as 9 false] [.t i m] (.exit 0) [] [] := kn (by kernel_rfl)
theorem t141e (k : Nat) : L D7 141 [iA (Int.ofNat k), .rptr [.rsl 7 ps false, .rsl 3 fs false, .rsl 5 cs false, .rsl 3 ts false, iA d, iA u]] [.loop 0 [0, 1, 7, 8] [] [] [] (.exit 0) [] []] [.l 20 141 0 20 [iA (Int.ofNat k), .rptr [.rsl 7 ps false, .rsl 3 fs false, .rsl 5 cs false, .rsl 3 ts false, iA d, iA u], iA (Int.ofNat cs.length), iA 0] []] (bA false) := kr (by kernel_rfl)
theorem t141r (k : Nat) : L D7 141 [iA (Int.ofNat k), .rptr [.rsl 7 ps false, .rsl 3 fs false, .rsl 5 cs false, .rsl 3 ts false, iA d, iA u]] [.loop 0 [0, 1, 7, 8] [] [3] [] .ret [bA true] []] [.l 20 141 0 20 [iA (Int.ofNat k), .rptr [.rsl 7 ps false, .rsl 3 fs false, .rsl 5 cs false, .rsl 3 ts false, iA d, iA u], iA (Int.ofNat cs.length), iA 0] []] (bA true) := kr (by kernel_rfl)
def queM (x : Lb) (i : Nat) : Bool := (List.range x.2.2.1.length).any (dbM x (tsAt x i))
def que141G : List AV → Option AV := sp2 intC (rptrR labR) fun i x => bif in140 x i then some (bA (queM x i.toNat)) else none
theorem srch_range (g : Nat → Bool) : ∀ n k : Nat, (srch (fun _ j => bif g j then some () else none) k (List.range n) = none ∧ (List.range n).any g = false) ∨ (srch (fun _ j => bif g j then some () else none) k (List.range n) = some () ∧ (List.range n).any g = true) := by
 intro n
 generalize List.range n = l
 induction l with
 | nil => intro k; exact .inl ⟨rfl, rfl⟩
 | cons a l ih =>
  intro k
  unfold srch
  rw [List.any_cons]
  cases h : g a with
  | true => exact .inr ⟨by simp, by simp⟩
  | false => simp only [cond_false, Bool.false_or]; exact ih (k + 1)
theorem h141 : Holds 141 que141G := holds2 fun i x r hr => by
 cases hb : in140 x i with
 | false => simp [hb] at hr
 | true =>
  simp only [hb, cond_true, Option.some.injEq] at hr; subst hr
  unfold in140 at hb
  simp only [Bool.and_eq_true, decide_eq_true_eq] at hb
  obtain ⟨hok, hz, h0, h1⟩ := hb
  obtain ⟨k, rfl⟩ := Int.eq_ofNat_of_zero_le h0
  simp only [Int.toNat_natCast] at h1 ⊢
  have K := okLb_at hok
  have hl := limTwo K.cs
  have hg := tsAt_get h1
  have hT := K.ws _ (List.mem_of_getElem? hg)
  have hgm := get_map tsC.enc hg
  have h := LoopRun.find (C := CS D7) (p := 0) (nt := 20) (rd := false) (c := lO (CS D7) 141 0) (fun _ j => bif dbM x (tsAt x k) j then some () else none) (fun j => mkSt [0, 1, 7, 8] [] 20 [iA (Int.ofNat k), lbRA x, iA (Int.ofNat x.2.2.1.length), iA (Int.ofNat j)] [])
   (fun _ => mkSt [3] [] 20 [bA true] []) (mkSt [] [] 20 [] []) (.exit 0) (fun _ => .ret) (List.range x.2.2.1.length) (by simp) (by simp)
   (fun j y hy => by
    have hj : j < x.2.2.1.length := by have := lt_len hy; rwa [List.length_range] at this
    have e : y = j := by rw [List.getElem?_range hj, Option.some.injEq] at hy; exact hy.symm
    subst e
    have hs := sp142 hok hT hz hj
    cases h : dbM x (tsAt x k) y with
    | true => rw [h] at hs; exact D7_ok.rndR ((lx x r141y) k x.2.2.1.length y (tsAt x k).1 (tsAt x k).2.1 ((tsAt x k).2.2.map strC.enc)) ⟨lt_of hj, hgm, ⟨rfl, hs⟩, trivial, rfl⟩
    | false =>
     rw [h] at hs
     have hr := (lx x r141n) k x.2.2.1.length y (tsAt x k).1 (tsAt x k).2.1 ((tsAt x k).2.2.map strC.enc)
     rw [wrap_ix hj hl] at hr
     exact D7_ok.rndN hr ⟨lt_of hj, hgm, ⟨rfl, hs⟩, trivial, rfl⟩)
   (by rw [List.length_range]; exact D7_ok.rndX ((lx x r141x) k x.2.2.1.length x.2.2.1.length) ⟨lt_self _, trivial, rfl⟩)
  rw [← e_cb x.2.2.1] at h
  unfold queM
  rcases srch_range (dbM x (tsAt x k)) x.2.2.1.length 0 with ⟨h1, h2⟩ | ⟨h1, h2⟩
  ·rw [h1] at h; rw [h2]; exact D7_ok.tr ((lx x t141e) k) ⟨⟨trivial, trivial, h.says⟩, rfl⟩
  ·rw [h1] at h; rw [h2]; exact D7_ok.tr ((lx x t141r) k) ⟨⟨trivial, trivial, h.says⟩, rfl⟩
theorem sp141 {x : Lb} {k : Nat} (hok : okLb x = true) (hz : labM x = 0) (h : k < x.2.2.2.1.length) : que141G [iA (Int.ofNat k), lbRA x] = some (bA (queM x k)) := by
 have := sp2_at (A := intC) (B := rptrR labR) (F := fun i x => bif in140 x i then some (bA (queM x i.toNat)) else none) (Int.ofNat k) x
 rw [show in140 x (Int.ofNat k) = true by unfold in140; rw [hok, decide_eq_true hz, show decide ((0 : Int) ≤ Int.ofNat k) = true from decide_eq_true (by simp), show (Int.ofNat k).toNat = k from rfl, decide_eq_true h]; rfl] at this
 exact this
noncomputable def D8 : Specs := (D7.set 141 que141G)
theorem D8_ok : Ok D8 := (D7_ok.set h141)
end Go.Vm.S3

namespace Go.Vm.S3
open Go.Proofs Go.RowKit
set_option maxRecDepth 100000
variable (ps fs cs ts : List AV) (d u : Int)
set_option maxRecDepth 20000
theorem w135na (es : List AV) (l i : Nat) (q : Bool) (a : ByteArray) (n : Int) (ws : List AV) : Lr D8 135 33 0 [1, 7, 16, 17, 18] [] [1, 7, 16, 17, 18] [] [7] [] [.fn (.func 141) [] [.rptr [.rsl 7 ps false, .rsl 3 fs false, .rsl 5 cs false, .rsl 3 ts false, iA d, iA u]], nilS, .rsl 3 es false, iA (Int.ofNat l), iA (Int.ofNat i)] [] [.as 19 true, .chk [.agg [sA a, iA n, .rsl 1 ws false]], .sp [iA (Int.ofNat i), .rptr [.rsl 7 ps false, .rsl 3 fs false, .rsl 5 cs false, .rsl 3 ts false, iA d, iA u]] (bA q), .as 25 false] [.t i l, .g es i, .f 141, .b q] .nrm [.fn (Fn.func 141) [] [.rptr [.rsl 7 ps false, .rsl 3 fs false, .rsl 5 cs false, .rsl 3 ts false, iA d, iA u]], .v (.slice none 0 0), .rsl 3 es false, iA (Int.ofNat l), iA (IntKind.i64.wrap (Int.ofNat i + 1))] [] := kn (by kernel_rfl)
theorem w135ya (es : List AV) (l i : Nat) (q : Bool) (a : ByteArray) (n : Int) (ws : List AV) : Lr D8 135 33 0 [1, 7, 16, 17, 18] [] [1, 7, 16, 17, 18] [30] [7] [] [.fn (.func 141) [] [.rptr [.rsl 7 ps false, .rsl 3 fs false, .rsl 5 cs false, .rsl 3 ts false, iA d, iA u]], nilS, .rsl 3 es false, iA (Int.ofNat l), iA (Int.ofNat i)] [] [.as 19 true, .chk [.agg [sA a, iA n, .rsl 1 ws false]], .sp [iA (Int.ofNat i), .rptr [.rsl 7 ps false, .rsl 3 fs false, .rsl 5 cs false, .rsl 3 ts false, iA d, iA u]] (bA q), .as 25 true] [.t i l, .g es i, .f 141, .b q] .nrm [.fn (Fn.func 141) [] [.rptr [.rsl 7 ps false, .rsl 3 fs false, .rsl 5 cs false, .rsl 3 ts false, iA d, iA u]], .sl 30 0 1 0 1, .rsl 3 es false, iA (Int.ofNat l), iA (IntKind.i64.wrap (Int.ofNat i + 1))] [(false, .arr 1 [sA a] false)] := kn (by kernel_rfl)
theorem w135xa (es : List AV) (l i : Nat) : Lr D8 135 33 0 [1, 7, 16, 17, 18] [] [1, 7, 16, 17, 18] [] [7] [] [.fn (.func 141) [] [.rptr [.rsl 7 ps false, .rsl 3 fs false, .rsl 5 cs false, .rsl 3 ts false, iA d, iA u]], nilS, .rsl 3 es false, iA (Int.ofNat l), iA (Int.ofNat i)] [] [.as 19 false] [.t i l] (.exit 0) [.v (.slice none 0 0)] [] := kn (by kernel_rfl)
abbrev cD9_11 (ps fs cs ts : List AV) (d u : Int) (es : List AV) (l i : Nat) (rs : List AV) (m : Nat) (q : Bool) (a : ByteArray) (n : Int) (ws : List AV) (h9 : List Hn) (a9 : List An) (x9 : Ex) (v9 : List AV) (e9 : List (Bool × Blk)) : Prop := Lr D8 135 33 0 [1, 7, 16, 17, 18] [30] [1, 7, 16, 17, 18] [30] [7] [30] [.fn (.func 141) [] [.rptr [.rsl 7 ps false, .rsl 3 fs false, .rsl 5 cs false, .rsl 3 ts false, iA d, iA u]], .sl 30 0 1 0 m, .rsl 3 es false, iA (Int.ofNat l), iA (Int.ofNat i)] [(false, .arr 1 rs false)] ([.as 19 true, .chk [.agg [sA a, iA n, .rsl 1 ws false]], .sp [iA (Int.ofNat i), .rptr [.rsl 7 ps false, .rsl 3 fs false, .rsl 5 cs false, .rsl 3 ts false, iA d, iA u]] (bA q)] ++ h9) ([.t i l, .g es i, .f 141] ++ a9) x9 v9 e9
theorem w135nb (es : List AV) (l i : Nat) (rs : List AV) (m : Nat) (q : Bool) (a : ByteArray) (n : Int) (ws : List AV) : cD9_11 ps fs cs ts d u es l i rs m q a n ws [.as 25 false] [.b q] .nrm [.fn (Fn.func 141) [] [.rptr [.rsl 7 ps false, .rsl 3 fs false, .rsl 5 cs false, .rsl 3 ts false, iA d, iA u]], .sl 30 0 1 0 m, .rsl 3 es false, iA (Int.ofNat l), iA (IntKind.i64.wrap (Int.ofNat i + 1))] [(false, .arr 1 rs false)] := kn (by kernel_rfl)
theorem w135yb (es : List AV) (l i : Nat) (rs : List AV) (m : Nat) (q : Bool) (a : ByteArray) (n : Int) (ws : List AV) : cD9_11 ps fs cs ts d u es l i rs m q a n ws [.as 25 true, .chk rs] [.b q, .k (apn m rs 1 [sA a] 16)] .nrm [.fn (Fn.func 141) [] [.rptr [.rsl 7 ps false, .rsl 3 fs false, .rsl 5 cs false, .rsl 3 ts false, iA d, iA u]], .sl 30 0 1 0 ((rs ++ ([sA a] : List AV)).length), .rsl 3 es false, iA (Int.ofNat l), iA (IntKind.i64.wrap (Int.ofNat i + 1))] [(false, .arr 1 (rs ++ ([sA a] : List AV)) false)] := kn (by kernel_rfl)
theorem w135xb (es : List AV) (l i : Nat) (rs : List AV) (m : Nat) : Lr D8 135 33 0 [1, 7, 16, 17, 18] [30] [1, 7, 16, 17, 18] [30] [7] [30] [.fn (.func 141) [] [.rptr [.rsl 7 ps false, .rsl 3 fs false, .rsl 5 cs false, .rsl 3 ts false, iA d, iA u]], .sl 30 0 1 0 m, .rsl 3 es false, iA (Int.ofNat l), iA (Int.ofNat i)] [(false, .arr 1 rs false)] [.as 19 false] [.t i l] (.exit 0) [.sl 30 0 1 0 m] [(false, .arr 1 rs false)] := kn (by kernel_rfl)
theorem w135ta (e : Int) : L D8 135 [lbE ps fs cs ts d u, .fn (.func 141) [] [.rptr [.rsl 7 ps false, .rsl 3 fs false, .rsl 5 cs false, .rsl 3 ts false, iA d, iA u]]] [.sp [lbE ps fs cs ts d u] (iA e), .as 13 true] [.f 49, .b (e != 0)] (.tup [.v (.slice none 0 0), iA e]) := kr (by kernel_rfl)
theorem w135tb (e : Int) (rs : List AV) : L D8 135 [lbE ps fs cs ts d u, .fn (.func 141) [] [.rptr [.rsl 7 ps false, .rsl 3 fs false, .rsl 5 cs false, .rsl 3 ts false, iA d, iA u]]] [.sp [lbE ps fs cs ts d u] (iA e), .as 13 false, .loop 0 [1, 7, 16, 17, 18] [] [7] [] (.exit 0) [.rsl 1 rs false] []] [.f 49, .b (e != 0), .l 33 135 0 33 [.fn (Fn.func 141) [] [.rptr [.rsl 7 ps false, .rsl 3 fs false, .rsl 5 cs false, .rsl 3 ts false, iA d, iA u]], .v (.slice none 0 0), .rsl 3 ts false, iA (Int.ofNat ts.length), iA 0] []] (.tup [.rsl 1 rs false, iA 0]) := kr (by kernel_rfl)
theorem w135_run (x : Lb) (hb : okLb x = true) (hz : labM x = 0) :
  LoopRun (CS D8) 0 33 false (lO (CS D8) 135 0) (mkSt [1, 7, 16, 17, 18] [] 33 [.fn (.func 141) [] [lbRA x], nilS, .rsl 3 (x.2.2.2.1.map tsC.enc) false, iA (Int.ofNat x.2.2.2.1.length), iA 0] []) (.exit 0) (mkSt [7] [] 33 [.rsl 1 ((chM x (queM x)).map strC.enc) false] []) := by
 have K := okLb_at hb
 have hlim := K.ts
 have hl := limTwo hlim
 exact LoopRun.pushes (C := CS D8) (p := 0) (nt := 33) (rd := false) (c := lO (CS D8) 135 0) strC.enc (chG (queM x)) (chG_le _) (key := 30) (sz := 1) (ts := [1, 7, 16, 17, 18]) (ks := []) (fun i a => [.fn (.func 141) [] [lbRA x], a, .rsl 3 (x.2.2.2.1.map tsC.enc) false, iA (Int.ofNat x.2.2.2.1.length), iA (Int.ofNat i)]) (fun _ => [])
   (nf := 33) (ts2 := [7]) (fun a => [a]) (ex := .exit 0) x.2.2.2.1 (by simp) (by decide) (by decide) (fun _ => rfl) (fun _ => rfl)
   (fun es n hn => .cons (FzS.sl hn) .nil) (fun es n hn => .nil) (.cons Weak.nilSl .nil) .nil
   (fun i t ht hg => by
    have hi := lt_len ht
    have f := sp141 (x := x) hb hz hi
    rw [chG_no hg] at f
    have hr := w135na (x.1.map ptC.enc) (x.2.1.map ftC.enc) (x.2.2.1.map cbC.enc) (x.2.2.2.1.map tsC.enc) x.2.2.2.2.1 x.2.2.2.2.2 (x.2.2.2.1.map tsC.enc) x.2.2.2.1.length i false t.1 t.2.1 (t.2.2.map strC.enc)
    rw [wrap_ix hi hl] at hr
    exact D8_ok.rndN hr ⟨lt_of hi, get_map tsC.enc ht, ⟨rfl, f⟩, rfl, trivial, rfl⟩)
   (fun i t rs ht hg hc => by
    have hi := lt_len ht
    have f := sp141 (x := x) hb hz hi
    rw [chG_no hg] at f
    have hr := w135nb (x.1.map ptC.enc) (x.2.1.map ftC.enc) (x.2.2.1.map cbC.enc) (x.2.2.2.1.map tsC.enc) x.2.2.2.2.1 x.2.2.2.2.2 (x.2.2.2.1.map tsC.enc) x.2.2.2.1.length i rs rs.length false t.1 t.2.1 (t.2.2.map strC.enc)
    rw [wrap_ix hi hl] at hr
    exact D8_ok.rndN hr ⟨lt_of hi, get_map tsC.enc ht, ⟨rfl, f⟩, rfl, ⟨hc, trivial⟩, rfl⟩)
   (fun i t y ht hg => by
    have hi := lt_len ht
    obtain ⟨h1, rfl⟩ := chG_yes hg
    have f := sp141 (x := x) hb hz hi
    rw [h1] at f
    have hr := w135ya (x.1.map ptC.enc) (x.2.1.map ftC.enc) (x.2.2.1.map cbC.enc) (x.2.2.2.1.map tsC.enc) x.2.2.2.2.1 x.2.2.2.2.2 (x.2.2.2.1.map tsC.enc) x.2.2.2.1.length i true t.1 t.2.1 (t.2.2.map strC.enc)
    rw [wrap_ix hi hl] at hr
    exact D8_ok.rndN hr ⟨lt_of hi, get_map tsC.enc ht, ⟨rfl, f⟩, rfl, ⟨closedStr [t.1], trivial⟩, rfl⟩)
   (fun i t y rs ht hg hc hrs => by
    have hi := lt_len ht
    obtain ⟨h1, rfl⟩ := chG_yes hg
    have f := sp141 (x := x) hb hz hi
    rw [h1] at f
    have hlen : (rs ++ [strC.enc t.1]).length ≤ 1000001 := by rw [List.length_append]; unfold lim at hlim; simp; omega
    have hr := w135yb (x.1.map ptC.enc) (x.2.1.map ftC.enc) (x.2.2.1.map cbC.enc) (x.2.2.2.1.map tsC.enc) x.2.2.2.2.1 x.2.2.2.2.2 (x.2.2.2.1.map tsC.enc) x.2.2.2.1.length i rs rs.length true t.1 t.2.1 (t.2.2.map strC.enc)
    rw [wrap_ix hi hl] at hr
    exact D8_ok.rndN hr ⟨lt_of hi, get_map tsC.enc ht, ⟨rfl, f⟩, rfl, ⟨rfl, rfl, rfl, by show (rs ++ [strC.enc t.1]).length * 16 ≤ _; omega, by show (rs ++ [strC.enc t.1]).length ≤ _; omega, by decide⟩, ⟨hc.append (closedStr [t.1]), trivial⟩, rfl⟩)
   (D8_ok.rndX (w135xa (x.1.map ptC.enc) (x.2.1.map ftC.enc) (x.2.2.1.map cbC.enc) (x.2.2.2.1.map tsC.enc) x.2.2.2.2.1 x.2.2.2.2.2 (x.2.2.2.1.map tsC.enc) x.2.2.2.1.length x.2.2.2.1.length) ⟨lt_self _, trivial, rfl⟩)
   (fun rs hc => D8_ok.rndX (w135xb (x.1.map ptC.enc) (x.2.1.map ftC.enc) (x.2.2.1.map cbC.enc) (x.2.2.2.1.map tsC.enc) x.2.2.2.2.1 x.2.2.2.2.2 (x.2.2.2.1.map tsC.enc) x.2.2.2.1.length x.2.2.2.1.length rs rs.length) ⟨lt_self _, ⟨hc, trivial⟩, rfl⟩)
theorem w135_cmp (x : Lb) (hb : okLb x = true) : Cmp 135 [lbA x, .fn (.func 141) [] [lbRA x]] (.tup [slA strC 1 (ch135 x (queM x)), iA (labM x)]) := by
 unfold ch135
 cases he : labM x != 0 with
 | true => exact Comp.weak (D8_ok.tr (w135ta (x.1.map ptC.enc) (x.2.1.map ftC.enc) (x.2.2.1.map cbC.enc) (x.2.2.2.1.map tsC.enc) x.2.2.2.2.1 x.2.2.2.2.2 (labM x)) ⟨⟨rfl, spLab hb⟩, he, rfl⟩) WeakL.rfl tup_nil
 | false =>
  have hz : labM x = 0 := by simpa using he
  have h := w135_run x hb hz
  rw [← e_ts x.2.2.2.1] at h
  have := D8_ok.tr (w135tb (x.1.map ptC.enc) (x.2.1.map ftC.enc) (x.2.2.1.map cbC.enc) (x.2.2.2.1.map tsC.enc) x.2.2.2.2.1 x.2.2.2.2.2 (labM x) ((chM x (queM x)).map strC.enc)) ⟨⟨rfl, spLab hb⟩, he, ⟨trivial, trivial, h.says⟩, rfl⟩
  rw [hz]; exact this
noncomputable def ch141G : List AV → Option AV := sp2 labC (cloC 141 (rptrR labR)) fun x q => bif okLb x && eqC q x then some (.tup [slA strC 1 (ch135 x (queM x)), iA (labM x)]) else none
theorem h135w : Holds 135 ch141G := holds2 fun x q r hr => by
 cases hb : okLb x && eqC q x with
 | false => simp [hb] at hr
 | true =>
  simp only [hb, cond_true, Option.some.injEq] at hr; subst hr
  rw [Bool.and_eq_true] at hb
  have e : q = x := eqC_of hb.2
  subst e
  exact w135_cmp q hb.1
theorem bnd2_ne {α β : Type} {A : Cod α} {R : Cod β} {f g : FuncId} {F : α → β → Option AV} {a b : AV} : sp2 A (bndC f R) F [a, .fn (.func g) [] [b]] = none := by
 have hd : (bndC f R).dec (.fn (.func g) [] [b]) = none := rfl
 simp only [sp2, hd]
 cases A.dec a <;> rfl
theorem spCh141 {x : Lb} (h : okLb x = true) : orG (orG ch136G ch140G) ch141G [lbA x, .fn (.func 141) [] [lbRA x]] = some (.tup [slA strC 1 (ch135 x (queM x)), iA (labM x)]) := or_r (by
 unfold orG
 rw [show ch136G [lbA x, .fn (.func 141) [] [lbRA x]] = none from clo_ne rfl]
 exact bnd2_ne) (by
 have := sp2_at (A := labC) (B := cloC 141 (rptrR labR)) (F := fun x q => bif okLb x && eqC q x then some (.tup [slA strC 1 (ch135 x (queM x)), iA (labM x)]) else none) x x
 rw [h, eqC_self] at this; exact this)
noncomputable def D9 : Specs := (D8.set 135 (orG (orG ch136G ch140G) ch141G))
theorem D9_ok : Ok D9 := (D8_ok.set (holds_or (holds_or h135u h135v) h135w))
end Go.Vm.S3

namespace Go.Vm.S3
open Go.Proofs Go.RowKit
set_option maxRecDepth 100000
variable (ps fs cs ts : List AV) (d u : Int)
set_option maxRecDepth 20000
theorem t60 (rs : List AV) (e : Int) : L D9 60 [lbE ps fs cs ts d u] [.sp [lbE ps fs cs ts d u, .fn (.func 141) [] [.rptr [.rsl 7 ps false, .rsl 3 fs false, .rsl 5 cs false, .rsl 3 ts false, iA d, iA u]]] (.tup [.rsl 1 rs false, iA e])] [.f 135] (.tup [.rsl 1 rs false, iA e]) := kr (by kernel_rfl)
def qu60G : List AV → Option AV := sp1 labC fun x => bif okLb x then some (.tup [slA strC 1 (ch135 x (queM x)), iA (labM x)]) else none
theorem h60 : Holds 60 qu60G := holds1 fun x r hr => by
 cases hb : okLb x with
 | false => simp [hb] at hr
 | true =>
  simp only [hb, cond_true, Option.some.injEq] at hr; subst hr
  exact D9_ok.tr ((lx x t60) _ _) ⟨⟨rfl, spCh141 hb⟩, rfl⟩
noncomputable def D10 : Specs := (D9.set 60 qu60G)
theorem D10_ok : Ok D10 := (D9_ok.set h60)
end Go.Vm.S3
