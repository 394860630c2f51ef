/- Days: whether a test is questionable by a calibration, of the reference. -/
import Derived.Test.YtliikgffjphhjaaGreatDoorS3GP
namespace Go.Vm.S3
open Go.Proofs Go.RowKit
set_option maxRecDepth 100000
variable (ps fs cs ts : List AV) (d u : Int)
set_option maxRecDepth 20000
abbrev cD11_1 (ps fs cs ts : List AV) (d u : Int) (ta : ByteArray) (tn : Int) (ws : List AV) (a b c : ByteArray) (n : Int) (us : List AV) (k i : Nat) (a2 b2 c2 : ByteArray) (n2 : Int) (us2 : List AV) (h9 : List Hn) (a9 : List An) (x9 : Ex) (v9 : List AV) (e9 : List (Bool × Blk)) : Prop := Lr D10 147 73 0 [2, 3, 4, 7, 8] [3, 4, 7] [2, 3, 4, 7, 8] [3, 4, 7] [6] [] [iA (Int.ofNat k), .ptr 3 0 0, .ptr 4 1 0, .ptr 7 2 0, iA (Int.ofNat i)] [lbX ps fs cs ts d u, (false, .box [sA ta, iA tn, .rsl 1 ws false]), (false, .box [sA a, sA b, sA c, iA n, .rsl 1 us false])] ([.as 41 true, .chk [.agg [sA a2, sA b2, sA c2, iA n2, .rsl 1 us2 false]]] ++ h9) ([.t i k, .g cs i] ++ a9) x9 v9 e9
theorem r147a (ta : ByteArray) (tn : Int) (ws : List AV) (a b c : ByteArray) (n : Int) (us : List AV) (k i : Nat) (a2 b2 c2 : ByteArray) (n2 : Int) (us2 : List AV) : cD11_1 ps fs cs ts d u ta tn ws a b c n us k i a2 b2 c2 n2 us2 [.as 54 false] [.b (b2.toList == b.toList)] .nrm [iA (Int.ofNat k), .ptr 3 0 0, .ptr 4 1 0, .ptr 7 2 0, iA (IntKind.i64.wrap (Int.ofNat i + 1))] [lbX ps fs cs ts d u, (false, .box [sA ta, iA tn, .rsl 1 ws false]), (false, .box [sA a, sA b, sA c, iA n, .rsl 1 us false])] := kn (by kernel_rfl)
theorem r147b (ta : ByteArray) (tn : Int) (ws : List AV) (a b c : ByteArray) (n : Int) (us : List AV) (k i : Nat) (a2 b2 c2 : ByteArray) (n2 : Int) (us2 : List AV) : cD11_1 ps fs cs ts d u ta tn ws a b c n us k i a2 b2 c2 n2 us2 [.as 54 true, .as 61 false] [.b (b2.toList == b.toList), .b (c2.toList == c.toList)] .nrm [iA (Int.ofNat k), .ptr 3 0 0, .ptr 4 1 0, .ptr 7 2 0, iA (IntKind.i64.wrap (Int.ofNat i + 1))] [lbX ps fs cs ts d u, (false, .box [sA ta, iA tn, .rsl 1 ws false]), (false, .box [sA a, sA b, sA c, iA n, .rsl 1 us false])] := kn (by kernel_rfl)
theorem r147c (ta : ByteArray) (tn : Int) (ws : List AV) (a b c : ByteArray) (n : Int) (us : List AV) (k i : Nat) (a2 b2 c2 : ByteArray) (n2 : Int) (us2 : List AV) : cD11_1 ps fs cs ts d u ta tn ws a b c n us k i a2 b2 c2 n2 us2 [.as 54 true, .as 61 true, .sp [lbE ps fs cs ts d u, .agg [sA a2, sA b2, sA c2, iA n2, .rsl 1 us2 false]] (bA false)] [.b (b2.toList == b.toList), .b (c2.toList == c.toList), .f 47] .nrm [iA (Int.ofNat k), .ptr 3 0 0, .ptr 4 1 0, .ptr 7 2 0, iA (IntKind.i64.wrap (Int.ofNat i + 1))] [lbX ps fs cs ts d u, (false, .box [sA ta, iA tn, .rsl 1 ws false]), (false, .box [sA a, sA b, sA c, iA n, .rsl 1 us false])] := kn (by kernel_rfl)
theorem r147d (ta : ByteArray) (tn : Int) (ws : List AV) (a b c : ByteArray) (n : Int) (us : List AV) (k i : Nat) (a2 b2 c2 : ByteArray) (n2 : Int) (us2 : List AV) : cD11_1 ps fs cs ts d u ta tn ws a b c n us k i a2 b2 c2 n2 us2 [.as 54 true, .as 61 true, .sp [lbE ps fs cs ts d u, .agg [sA a2, sA b2, sA c2, iA n2, .rsl 1 us2 false]] (bA true), .as 72 false] [.b (b2.toList == b.toList), .b (c2.toList == c.toList), .f 47, .b (decide (n2 > tn))] .nrm [iA (Int.ofNat k), .ptr 3 0 0, .ptr 4 1 0, .ptr 7 2 0, iA (IntKind.i64.wrap (Int.ofNat i + 1))] [lbX ps fs cs ts d u, (false, .box [sA ta, iA tn, .rsl 1 ws false]), (false, .box [sA a, sA b, sA c, iA n, .rsl 1 us false])] := kn (by kernel_rfl)
theorem r147y (ta : ByteArray) (tn : Int) (ws : List AV) (a b c : ByteArray) (n : Int) (us : List AV) (k i : Nat) (a2 b2 c2 : ByteArray) (n2 : Int) (us2 : List AV) : cD11_1 ps fs cs ts d u ta tn ws a b c n us k i a2 b2 c2 n2 us2 [.as 54 true, .as 61 true, .sp [lbE ps fs cs ts d u, .agg [sA a2, sA b2, sA c2, iA n2, .rsl 1 us2 false]] (bA true), .as 72 true] [.b (b2.toList == b.toList), .b (c2.toList == c.toList), .f 47, .b (decide (n2 > tn))] .ret [bA false] [] := kn (by kernel_rfl)
theorem r147x (ta : ByteArray) (tn : Int) (ws : List AV) (a b c : ByteArray) (n : Int) (us : List AV) (k i : Nat) : Lr D10 147 73 0 [2, 3, 4, 7, 8] [3, 4, 7] [2, 3, 4, 7, 8] [3, 4, 7] [] [] [iA (Int.ofNat k), .ptr 3 0 0, .ptr 4 1 0, .ptr 7 2 0, iA (Int.ofNat i)] [lbX ps fs cs ts d u, (false, .box [sA ta, iA tn, .rsl 1 ws false]), (false, .box [sA a, sA b, sA c, iA n, .rsl 1 us false])] [.as 41 false] [.t i k] (.exit 0) [] [] := kn (by kernel_rfl)
theorem t147a (ta : ByteArray) (tn : Int) (ws : List AV) (a b c : ByteArray) (n : Int) (us : List AV) (k : Nat) : L D10 147 [lbE ps fs cs ts d u, .agg [sA ta, iA tn, .rsl 1 ws false], iA (Int.ofNat k)] [.chk [.agg [sA a, sA b, sA c, iA n, .rsl 1 us false]], .sp [.rsl 1 ws false, sA b] (bA false)] [.g cs k, .f 77] (bA false) := kr (by kernel_rfl)
abbrev cD11_2 (ps fs cs ts : List AV) (d u : Int) (ta : ByteArray) (tn : Int) (ws : List AV) (a b c : ByteArray) (n : Int) (us : List AV) (k : Nat) (w : ByteArray) (h9 : List Hn) (a9 : List An) (r9 : AV) : Prop := L D10 147 [lbE ps fs cs ts d u, .agg [sA ta, iA tn, .rsl 1 ws false], iA (Int.ofNat k)] ([.chk [.agg [sA a, sA b, sA c, iA n, .rsl 1 us false]], .sp [.rsl 1 ws false, sA b] (bA true), .sp [lbE ps fs cs ts d u, sA b, iA tn] (sA w)] ++ h9) ([.g cs k, .f 77, .f 45] ++ a9) r9
theorem t147b (ta : ByteArray) (tn : Int) (ws : List AV) (a b c : ByteArray) (n : Int) (us : List AV) (k : Nat) (w : ByteArray) : cD11_2 ps fs cs ts d u ta tn ws a b c n us k w [.as 32 true] [.b (!(w.toList == c.toList))] (bA false) := kr (by kernel_rfl)
theorem t147c (ta : ByteArray) (tn : Int) (ws : List AV) (a b c : ByteArray) (n : Int) (us : List AV) (k : Nat) (w : ByteArray) : cD11_2 ps fs cs ts d u ta tn ws a b c n us k w [.as 32 false, .as 38 true] [.b (!(w.toList == c.toList)), .b (decide (tn ≥ n))] (bA false) := kr (by kernel_rfl)
theorem t147e (ta : ByteArray) (tn : Int) (ws : List AV) (a b c : ByteArray) (n : Int) (us : List AV) (k : Nat) (w : ByteArray) : cD11_2 ps fs cs ts d u ta tn ws a b c n us k w [.as 32 false, .as 38 false, .loop 0 [2, 3, 4, 7, 8] [3, 4, 7] [] [] (.exit 0) [] []] [.b (!(w.toList == c.toList)), .b (decide (tn ≥ n)), .l 73 147 0 73 [iA (Int.ofNat k), .ptr 3 0 0, .ptr 4 1 0, .ptr 7 2 0, iA 0] [lbX ps fs cs ts d u, (false, .box [sA ta, iA tn, .rsl 1 ws false]), (false, .box [sA a, sA b, sA c, iA n, .rsl 1 us false])]] (bA true) := kr (by kernel_rfl)
theorem t147r (ta : ByteArray) (tn : Int) (ws : List AV) (a b c : ByteArray) (n : Int) (us : List AV) (k : Nat) (w : ByteArray) : cD11_2 ps fs cs ts d u ta tn ws a b c n us k w [.as 32 false, .as 38 false, .loop 0 [2, 3, 4, 7, 8] [3, 4, 7] [6] [] .ret [bA false] []] [.b (!(w.toList == c.toList)), .b (decide (tn ≥ n)), .l 73 147 0 73 [iA (Int.ofNat k), .ptr 3 0 0, .ptr 4 1 0, .ptr 7 2 0, iA 0] [lbX ps fs cs ts d u, (false, .box [sA ta, iA tn, .rsl 1 ws false]), (false, .box [sA a, sA b, sA c, iA n, .rsl 1 us false])]] (bA false) := kr (by kernel_rfl)
theorem take_at {α : Type} {l : List α} {k i : Nat} {o : α} (h : (l.take k)[i]? = some o) : i < k ∧ l[i]? = some o := by
 rw [List.getElem?_take] at h
 by_cases hi : i < k
 ·rw [if_pos hi] at h; exact ⟨hi, h⟩
 ·rw [if_neg hi] at h; cases h
theorem srch_bool {α : Type} (g : α → Bool) : ∀ (l : List α) (k : Nat), (srch (fun _ o => bif g o then some () else none) k l = none ∧ l.any g = false) ∨ (srch (fun _ o => bif g o then some () else none) k l = some () ∧ l.any g = true)
 | [], k => .inl ⟨rfl, rfl⟩
 | a :: l, k => by
  unfold srch
  rw [List.any_cons]
  cases h : g a with
  | true => exact .inr ⟨by simp, by simp⟩
  | false => simp only [cond_false, Bool.false_or]; exact srch_bool g l (k + 1)
def qs147G : List AV → Option AV := sp3 labC tsC intC fun x t k => bif in142 x k t then some (bA (qsM x t k.toNat)) else none
theorem h147 : Holds 147 qs147G := holds3 fun x t k r hr => by
 cases hb : in142 x k t with
 | false => simp [hb] at hr
 | true =>
  simp only [hb, cond_true, Option.some.injEq] at hr; subst hr
  obtain ⟨hok, hT, hz, j, rfl, hj⟩ := in142_at hb
  have hg := cbAt_get hj
  have hgm := get_map cbC.enc hg
  have fh := spHw (l := t.2.2) (cbAt x j).2.1 (Nat.ble_eq_true_of_le (limTwo (Nat.le_of_ble_eq_true hT)))
  have fs := spSpec (x := x) (cbAt x j).2.1 t.2.1 hok
  show Cmp 147 [lbA x, tsA t, iA (Int.ofNat j)] (bA (qsM x t j))
  unfold qsM
  have K := okLb_at hok
  have hl := limTwo K.cs
  have hlen : (x.2.2.1.take j).length = j := by rw [List.length_take]; omega
  generalize cbAt x j = c at *
  cases h2 : hasWordM t.2.2 c.2.1 with
  | false => rw [h2] at fh; exact D10_ok.tr ((lx x t147a) t.1 t.2.1 (t.2.2.map strC.enc) c.1 c.2.1 c.2.2.1 c.2.2.2.1 (c.2.2.2.2.map intC.enc) j) ⟨hgm, ⟨rfl, fh⟩, rfl⟩
  | true =>
   rw [h2] at fh
   cases h3 : !seq (specM x.2.1 c.2.1 t.2.1) c.2.2.1 with
   | true => exact D10_ok.tr ((lx x t147b) t.1 t.2.1 (t.2.2.map strC.enc) c.1 c.2.1 c.2.2.1 c.2.2.2.1 (c.2.2.2.2.map intC.enc) j (specM x.2.1 c.2.1 t.2.1)) ⟨hgm, ⟨rfl, fh⟩, ⟨rfl, fs⟩, h3, rfl⟩
   | false =>
    cases h4 : decide (t.2.1 ≥ c.2.2.2.1) with
    | true => exact D10_ok.tr ((lx x t147c) t.1 t.2.1 (t.2.2.map strC.enc) c.1 c.2.1 c.2.2.1 c.2.2.2.1 (c.2.2.2.2.map intC.enc) j (specM x.2.1 c.2.1 t.2.1)) ⟨hgm, ⟨rfl, fh⟩, ⟨rfl, fs⟩, h3, h4, rfl⟩
    | false =>
     have h := LoopRun.find (C := CS D10) (p := 0) (nt := 73) (rd := false) (c := lO (CS D10) 147 0) (fun _ (o : Cb) => bif othM x.1 c t.2.1 o then some () else none) (fun i => mkSt [2, 3, 4, 7, 8] [3, 4, 7] 73 [iA (Int.ofNat j), .ptr 3 0 0, .ptr 4 1 0, .ptr 7 2 0, iA (Int.ofNat i)] [lbY x, tsX t, cbX c])
      (fun _ => mkSt [6] [] 73 [bA false] []) (mkSt [] [] 73 [] []) (.exit 0) (fun _ => .ret) (x.2.2.1.take j) (by simp) (by simp)
      (fun i o ho => by
       obtain ⟨hi, ho⟩ := take_at ho
       have hog := get_map cbC.enc ho
       have fo := spGd hok (cal_ok hz (List.mem_of_getElem? ho))
       have hw := wrap_ix hi (Nat.lt_trans hj hl)
       unfold othM
       cases h5 : seq o.2.1 c.2.1 with
       | false => have hr := (lx x r147a) t.1 t.2.1 (t.2.2.map strC.enc) c.1 c.2.1 c.2.2.1 c.2.2.2.1 (c.2.2.2.2.map intC.enc) j i o.1 o.2.1 o.2.2.1 o.2.2.2.1 (o.2.2.2.2.map intC.enc); rw [hw] at hr; exact D10_ok.rndN hr ⟨lt_of hi, hog, h5, trivial, rfl⟩
       | true =>
        cases h6 : seq o.2.2.1 c.2.2.1 with
        | false => have hr := (lx x r147b) t.1 t.2.1 (t.2.2.map strC.enc) c.1 c.2.1 c.2.2.1 c.2.2.2.1 (c.2.2.2.2.map intC.enc) j i o.1 o.2.1 o.2.2.1 o.2.2.2.1 (o.2.2.2.2.map intC.enc); rw [hw] at hr; exact D10_ok.rndN hr ⟨lt_of hi, hog, h5, h6, trivial, rfl⟩
        | true =>
         cases h7 : goodM x.1 o with
         | false => rw [h7] at fo; have hr := (lx x r147c) t.1 t.2.1 (t.2.2.map strC.enc) c.1 c.2.1 c.2.2.1 c.2.2.2.1 (c.2.2.2.2.map intC.enc) j i o.1 o.2.1 o.2.2.1 o.2.2.2.1 (o.2.2.2.2.map intC.enc); rw [hw] at hr; exact D10_ok.rndN hr ⟨lt_of hi, hog, h5, h6, ⟨rfl, fo⟩, trivial, rfl⟩
         | true =>
          rw [h7] at fo
          cases h8 : decide (o.2.2.2.1 > t.2.1) with
          | false => have hr := (lx x r147d) t.1 t.2.1 (t.2.2.map strC.enc) c.1 c.2.1 c.2.2.1 c.2.2.2.1 (c.2.2.2.2.map intC.enc) j i o.1 o.2.1 o.2.2.1 o.2.2.2.1 (o.2.2.2.2.map intC.enc); rw [hw] at hr; exact D10_ok.rndN hr ⟨lt_of hi, hog, h5, h6, ⟨rfl, fo⟩, h8, trivial, rfl⟩
          | true => exact D10_ok.rndR ((lx x r147y) t.1 t.2.1 (t.2.2.map strC.enc) c.1 c.2.1 c.2.2.1 c.2.2.2.1 (c.2.2.2.2.map intC.enc) j i o.1 o.2.1 o.2.2.1 o.2.2.2.1 (o.2.2.2.2.map intC.enc)) ⟨lt_of hi, hog, h5, h6, ⟨rfl, fo⟩, h8, trivial, rfl⟩)
      (by rw [hlen]; exact D10_ok.rndX ((lx x r147x) t.1 t.2.1 (t.2.2.map strC.enc) c.1 c.2.1 c.2.2.1 c.2.2.2.1 (c.2.2.2.2.map intC.enc) j j) ⟨lt_self _, trivial, rfl⟩)
     rcases srch_bool (othM x.1 c t.2.1) (x.2.2.1.take j) 0 with ⟨h5, h6⟩ | ⟨h5, h6⟩
     ·rw [h5] at h; rw [h6]; exact D10_ok.tr ((lx x t147e) t.1 t.2.1 (t.2.2.map strC.enc) c.1 c.2.1 c.2.2.1 c.2.2.2.1 (c.2.2.2.2.map intC.enc) j (specM x.2.1 c.2.1 t.2.1)) ⟨hgm, ⟨rfl, fh⟩, ⟨rfl, fs⟩, h3, h4, ⟨trivial, trivial, h.says⟩, rfl⟩
     ·rw [h5] at h; rw [h6]; exact D10_ok.tr ((lx x t147r) t.1 t.2.1 (t.2.2.map strC.enc) c.1 c.2.1 c.2.2.1 c.2.2.2.1 (c.2.2.2.2.map intC.enc) j (specM x.2.1 c.2.1 t.2.1)) ⟨hgm, ⟨rfl, fh⟩, ⟨rfl, fs⟩, h3, h4, ⟨trivial, trivial, h.says⟩, rfl⟩
theorem sp147 {x : Lb} {t : Ts} {k : Nat} (hok : okLb x = true) (hT : okT t = true) (hz : labM x = 0) (hk : k < x.2.2.1.length) : qs147G [lbA x, tsA t, iA (Int.ofNat k)] = some (bA (qsM x t k)) := by
 have := sp3_at (A := labC) (B := tsC) (D := intC) (F := fun x t k => bif in142 x k t then some (bA (qsM x t k.toNat)) else none) x t (Int.ofNat k)
 rw [show in142 x (Int.ofNat k) t = true by unfold in142; rw [hok, hT, decide_eq_true hz, show decide ((0 : Int) ≤ Int.ofNat k) = true from decide_eq_true (by simp), show (Int.ofNat k).toNat = k from rfl, decide_eq_true hk]; rfl] at this
 exact this
noncomputable def D11 : Specs := (D10.set 147 qs147G)
theorem D11_ok : Ok D11 := (D10_ok.set h147)
end Go.Vm.S3

namespace Go.Vm.S3
open Go.Proofs Go.RowKit
set_option maxRecDepth 100000
variable (ps fs cs ts : List AV) (d u : Int)
set_option maxRecDepth 20000
abbrev cD12_5 (ps fs cs ts : List AV) (d u : Int) (i j : Nat) (q : Bool) (a b c : ByteArray) (n : Int) (us : List AV) (h9 : List Hn) (a9 : List An) (x9 : Ex) (v9 : List AV) (e9 : List (Bool × Blk)) : Prop := Lr D11 63 50 2 [1, 3, 4, 5, 6] [1] [1, 3, 4, 5, 6] [1] [1, 3, 4, 5] [1] [.ptr 1 0 0, nilS, iA (Int.ofNat i), bA q, iA (Int.ofNat j)] [lbX ps fs cs ts d u] ([.as 18 true, .chk [.agg [sA a, sA b, sA c, iA n, .rsl 1 us false]]] ++ h9) ([.t j cs.length, .g cs j] ++ a9) x9 v9 e9
theorem i63ga (i j : Nat) (q : Bool) (a b c : ByteArray) (n : Int) (us : List AV) : cD12_5 ps fs cs ts d u i j q a b c n us [.sp [lbE ps fs cs ts d u, .agg [sA a, sA b, sA c, iA n, .rsl 1 us false]] (bA true)] [.f 47] .nrm [.ptr 1 0 0, .v (.slice none 0 0), iA (Int.ofNat i), bA q, iA (IntKind.i64.wrap (Int.ofNat j + 1))] [lbX ps fs cs ts d u] := kn (by kernel_rfl)
theorem i63na (i j : Nat) (q : Bool) (a b c : ByteArray) (n : Int) (us : List AV) (ta : ByteArray) (tn : Int) (ws : List AV) : cD12_5 ps fs cs ts d u i j q a b c n us [.sp [lbE ps fs cs ts d u, .agg [sA a, sA b, sA c, iA n, .rsl 1 us false]] (bA false), .chk [.agg [sA ta, iA tn, .rsl 1 ws false]], .sp [lbE ps fs cs ts d u, .agg [sA ta, iA tn, .rsl 1 ws false], iA (Int.ofNat j)] (bA false)] [.f 47, .g ts i, .f 147] .nrm [.ptr 1 0 0, .v (.slice none 0 0), iA (Int.ofNat i), bA q, iA (IntKind.i64.wrap (Int.ofNat j + 1))] [lbX ps fs cs ts d u] := kn (by kernel_rfl)
theorem i63ya (i j : Nat) (q : Bool) (a b c : ByteArray) (n : Int) (us : List AV) (ta : ByteArray) (tn : Int) (ws : List AV) : cD12_5 ps fs cs ts d u i j q a b c n us [.sp [lbE ps fs cs ts d u, .agg [sA a, sA b, sA c, iA n, .rsl 1 us false]] (bA false), .chk [.agg [sA ta, iA tn, .rsl 1 ws false]], .sp [lbE ps fs cs ts d u, .agg [sA ta, iA tn, .rsl 1 ws false], iA (Int.ofNat j)] (bA true)] [.f 47, .g ts i, .f 147] .nrm [.ptr 1 0 0, .v (.slice none 0 0), iA (Int.ofNat i), bA true, iA (IntKind.i64.wrap (Int.ofNat j + 1))] [lbX ps fs cs ts d u] := kn (by kernel_rfl)
theorem i63xa (i j : Nat) (q : Bool) : Lr D11 63 50 2 [1, 3, 4, 5, 6] [1] [1, 3, 4, 5, 6] [1] [1, 3, 4, 5] [1] [.ptr 1 0 0, nilS, iA (Int.ofNat i), bA q, iA (Int.ofNat j)] [lbX ps fs cs ts d u] [.as 18 false] [.t j cs.length] (.exit 2) [.ptr 1 0 0, .v (.slice none 0 0), iA (Int.ofNat i), bA q] [lbX ps fs cs ts d u] := kn (by kernel_rfl)
theorem r63na (i : Nat) (q : Bool) : Lr D11 63 50 0 [1, 3, 4] [1] [1, 3, 4] [1] [3] [1] [.ptr 1 0 0, nilS, iA (Int.ofNat i)] [lbX ps fs cs ts d u] [.as 11 true, .loop 0 [1, 3, 4, 5, 6] [1] [1, 3, 4, 5] [1] (.exit 2) [.ptr 1 0 0, nilS, iA (Int.ofNat i), bA q] [lbX ps fs cs ts d u], .as 39 false] [.t i ts.length, .l 50 63 2 50 [.ptr 1 0 0, .v (.slice none 0 0), iA (Int.ofNat i), bA false, iA 0] [lbX ps fs cs ts d u], .b q] .nrm [.ptr 1 0 0, .v (.slice none 0 0), iA (IntKind.i64.wrap (Int.ofNat i + 1))] [lbX ps fs cs ts d u] := kn (by kernel_rfl)
theorem r63ya (i : Nat) (q : Bool) (ta : ByteArray) (tn : Int) (ws : List AV) : Lr D11 63 50 0 [1, 3, 4] [1] [1, 3, 4] [1, 48] [3] [1] [.ptr 1 0 0, nilS, iA (Int.ofNat i)] [lbX ps fs cs ts d u] [.as 11 true, .loop 0 [1, 3, 4, 5, 6] [1] [1, 3, 4, 5] [1] (.exit 2) [.ptr 1 0 0, nilS, iA (Int.ofNat i), bA q] [lbX ps fs cs ts d u], .as 39 true, .chk [.agg [sA ta, iA tn, .rsl 1 ws false]]] [.t i ts.length, .l 50 63 2 50 [.ptr 1 0 0, .v (.slice none 0 0), iA (Int.ofNat i), bA false, iA 0] [lbX ps fs cs ts d u], .b q, .g ts i] .nrm [.ptr 1 0 0, .sl 48 1 1 0 1, iA (IntKind.i64.wrap (Int.ofNat i + 1))] [lbX ps fs cs ts d u, (false, .arr 1 [sA ta] false)] := kn (by kernel_rfl)
theorem r63xa (i : Nat) : Lr D11 63 50 0 [1, 3, 4] [1] [1, 3, 4] [1] [3] [1] [.ptr 1 0 0, nilS, iA (Int.ofNat i)] [lbX ps fs cs ts d u] [.as 11 false] [.t i ts.length] (.exit 0) [.v (.slice none 0 0)] [lbX ps fs cs ts d u] := kn (by kernel_rfl)
abbrev cD12_3 (ps fs cs ts : List AV) (d u : Int) (rs : List AV) (m i j : Nat) (q : Bool) (a b c : ByteArray) (n : Int) (us : List AV) (h9 : List Hn) (a9 : List An) (x9 : Ex) (v9 : List AV) (e9 : List (Bool × Blk)) : Prop := Lr D11 63 50 2 [1, 3, 4, 5, 6] [1, 48] [1, 3, 4, 5, 6] [1, 48] [1, 3, 4, 5] [1, 48] [.ptr 1 0 0, .sl 48 1 1 0 m, iA (Int.ofNat i), bA q, iA (Int.ofNat j)] [lbX ps fs cs ts d u, (false, .arr 1 rs false)] ([.as 18 true, .chk [.agg [sA a, sA b, sA c, iA n, .rsl 1 us false]]] ++ h9) ([.t j cs.length, .g cs j] ++ a9) x9 v9 e9
theorem i63gb (rs : List AV) (m : Nat) (i j : Nat) (q : Bool) (a b c : ByteArray) (n : Int) (us : List AV) : cD12_3 ps fs cs ts d u rs m i j q a b c n us [.sp [lbE ps fs cs ts d u, .agg [sA a, sA b, sA c, iA n, .rsl 1 us false]] (bA true)] [.f 47] .nrm [.ptr 1 0 0, .sl 48 1 1 0 m, iA (Int.ofNat i), bA q, iA (IntKind.i64.wrap (Int.ofNat j + 1))] [lbX ps fs cs ts d u, (false, .arr 1 rs false)] := kn (by kernel_rfl)
theorem i63nb (rs : List AV) (m : Nat) (i j : Nat) (q : Bool) (a b c : ByteArray) (n : Int) (us : List AV) (ta : ByteArray) (tn : Int) (ws : List AV) : cD12_3 ps fs cs ts d u rs m i j q a b c n us [.sp [lbE ps fs cs ts d u, .agg [sA a, sA b, sA c, iA n, .rsl 1 us false]] (bA false), .chk [.agg [sA ta, iA tn, .rsl 1 ws false]], .sp [lbE ps fs cs ts d u, .agg [sA ta, iA tn, .rsl 1 ws false], iA (Int.ofNat j)] (bA false)] [.f 47, .g ts i, .f 147] .nrm [.ptr 1 0 0, .sl 48 1 1 0 m, iA (Int.ofNat i), bA q, iA (IntKind.i64.wrap (Int.ofNat j + 1))] [lbX ps fs cs ts d u, (false, .arr 1 rs false)] := kn (by kernel_rfl)
theorem i63yb (rs : List AV) (m : Nat) (i j : Nat) (q : Bool) (a b c : ByteArray) (n : Int) (us : List AV) (ta : ByteArray) (tn : Int) (ws : List AV) : cD12_3 ps fs cs ts d u rs m i j q a b c n us [.sp [lbE ps fs cs ts d u, .agg [sA a, sA b, sA c, iA n, .rsl 1 us false]] (bA false), .chk [.agg [sA ta, iA tn, .rsl 1 ws false]], .sp [lbE ps fs cs ts d u, .agg [sA ta, iA tn, .rsl 1 ws false], iA (Int.ofNat j)] (bA true)] [.f 47, .g ts i, .f 147] .nrm [.ptr 1 0 0, .sl 48 1 1 0 m, iA (Int.ofNat i), bA true, iA (IntKind.i64.wrap (Int.ofNat j + 1))] [lbX ps fs cs ts d u, (false, .arr 1 rs false)] := kn (by kernel_rfl)
theorem i63xb (rs : List AV) (m : Nat) (i j : Nat) (q : Bool) : Lr D11 63 50 2 [1, 3, 4, 5, 6] [1, 48] [1, 3, 4, 5, 6] [1, 48] [1, 3, 4, 5] [1, 48] [.ptr 1 0 0, .sl 48 1 1 0 m, iA (Int.ofNat i), bA q, iA (Int.ofNat j)] [lbX ps fs cs ts d u, (false, .arr 1 rs false)] [.as 18 false] [.t j cs.length] (.exit 2) [.ptr 1 0 0, .sl 48 1 1 0 m, iA (Int.ofNat i), bA q] [lbX ps fs cs ts d u, (false, .arr 1 rs false)] := kn (by kernel_rfl)
abbrev cD12_4 (ps fs cs ts : List AV) (d u : Int) (rs : List AV) (m i : Nat) (q : Bool) (h9 : List Hn) (a9 : List An) (x9 : Ex) (v9 : List AV) (e9 : List (Bool × Blk)) : Prop := Lr D11 63 50 0 [1, 3, 4] [1, 48] [1, 3, 4] [1, 48] [3] [1, 48] [.ptr 1 0 0, .sl 48 1 1 0 m, iA (Int.ofNat i)] [lbX ps fs cs ts d u, (false, .arr 1 rs false)] ([.as 11 true, .loop 0 [1, 3, 4, 5, 6] [1, 48] [1, 3, 4, 5] [1, 48] (.exit 2) [.ptr 1 0 0, .sl 48 1 1 0 m, iA (Int.ofNat i), bA q] [lbX ps fs cs ts d u, (false, .arr 1 rs false)]] ++ h9) ([.t i ts.length, .l 50 63 2 50 [.ptr 1 0 0, .sl 48 1 1 0 m, iA (Int.ofNat i), bA false, iA 0] [lbX ps fs cs ts d u, (false, .arr 1 rs false)]] ++ a9) x9 v9 e9
theorem r63nb (rs : List AV) (m : Nat) (i : Nat) (q : Bool) : cD12_4 ps fs cs ts d u rs m i q [.as 39 false] [.b q] .nrm [.ptr 1 0 0, .sl 48 1 1 0 m, iA (IntKind.i64.wrap (Int.ofNat i + 1))] [lbX ps fs cs ts d u, (false, .arr 1 rs false)] := kn (by kernel_rfl)
theorem r63yb (rs : List AV) (m : Nat) (i : Nat) (q : Bool) (ta : ByteArray) (tn : Int) (ws : List AV) : cD12_4 ps fs cs ts d u rs m i q [.as 39 true, .chk [.agg [sA ta, iA tn, .rsl 1 ws false]], .chk rs] [.b q, .g ts i, .k (apn m rs 1 [sA ta] 16)] .nrm [.ptr 1 0 0, .sl 48 1 1 0 ((rs ++ ([sA ta] : List AV)).length), iA (IntKind.i64.wrap (Int.ofNat i + 1))] [lbX ps fs cs ts d u, (false, .arr 1 (rs ++ ([sA ta] : List AV)) false)] := kn (by kernel_rfl)
theorem r63xb (rs : List AV) (m : Nat) (i : Nat) : Lr D11 63 50 0 [1, 3, 4] [1, 48] [1, 3, 4] [1, 48] [3] [1, 48] [.ptr 1 0 0, .sl 48 1 1 0 m, iA (Int.ofNat i)] [lbX ps fs cs ts d u, (false, .arr 1 rs false)] [.as 11 false] [.t i ts.length] (.exit 0) [.sl 48 1 1 0 m] [lbX ps fs cs ts d u, (false, .arr 1 rs false)] := kn (by kernel_rfl)
theorem t63 (rs : List AV) : L D11 63 [lbE ps fs cs ts d u] [.loop 0 [1, 3, 4] [1] [3] [1] (.exit 0) [.rsl 1 rs false] [lbX ps fs cs ts d u]] [.l 50 63 0 50 [.ptr 1 0 0, .v (.slice none 0 0), iA 0] [lbX ps fs cs ts d u]] (.rsl 1 rs false) := kr (by kernel_rfl)
theorem goL_any (g : Nat → Bool) : ∀ (k : List Nat) (i : Nat) (q : Bool), goL (fun _ (j : Nat) (q : Bool) => (.inl (bif g j then true else q) : Bool ⊕ Bool)) id i k q = (q || k.any g)
 | [], i, q => by simp [goL]
 | y :: k, i, q => by
  unfold goL
  simp only [goL_any g k, List.any_cons]
  cases g y <;> cases q <;> simp
theorem inner63a (x : Lb) (hok : okLb x = true) (hz : labM x = 0) (i : Nat) (hi : i < x.2.2.2.1.length) :
  LoopRun (CS D11) 0 50 false (lO (CS D11) 63 2) (mkSt [1, 3, 4, 5, 6] [1] 50 [.ptr 1 0 0, nilS, iA (Int.ofNat i), bA false, iA 0] [lbY x]) (.exit 2) (mkSt [1, 3, 4, 5] [1] 50 [.ptr 1 0 0, nilS, iA (Int.ofNat i), bA (queM x i)] [lbY x]) := by
 have K := okLb_at hok
 have hl := limTwo K.cs
 have ht := tsAt_get hi
 have hgt := get_map tsC.enc ht
 have hT := K.ws _ (List.mem_of_getElem? ht)
 have h := LoopRun.list (C := CS D11) (p := 0) (nt := 50) (rd := false) (c := lO (CS D11) 63 2) (step := fun _ (j : Nat) (q : Bool) => (.inl (bif dbM x (tsAt x i) j then true else q) : Bool ⊕ Bool)) (fin := id)
  (enc := fun j q => mkSt [1, 3, 4, 5, 6] [1] 50 [.ptr 1 0 0, nilS, iA (Int.ofNat i), bA q, iA (Int.ofNat j)] [lbY x])
  (ex := fun _ => .exit 2) (out := fun q => mkSt [1, 3, 4, 5] [1] 50 [.ptr 1 0 0, nilS, iA (Int.ofNat i), bA q] [lbY x]) (l := List.range x.2.2.1.length) (fun _ _ => True)
  (fun j y q hy _ => by
   have hj : j < x.2.2.1.length := by have := lt_len hy; rwa [List.length_range] at this
   have e : y = j := by rw [List.getElem?_range hj, Option.some.injEq] at hy; exact hy.symm
   subst e
   have hlt : decide (Int.ofNat y < Int.ofNat (x.2.2.1.map cbC.enc).length) = true := by rw [e_cb]; exact lt_of hj
   have hg := cbAt_get hj
   have hgm := get_map cbC.enc hg
   have fg := spGd hok (cal_ok hz (List.mem_of_getElem? hg))
   have fq := sp147 (t := tsAt x i) hok hT hz hj
   have hw := wrap_ix hj hl
   refine ⟨?_, trivial⟩
   unfold dbM
   cases h1 : goodM x.1 (cbAt x y) with
   | true =>
    rw [h1] at fg
    have hr := i63ga (x.1.map ptC.enc) (x.2.1.map ftC.enc) (x.2.2.1.map cbC.enc) (x.2.2.2.1.map tsC.enc) x.2.2.2.2.1 x.2.2.2.2.2 i y q (cbAt x y).1 (cbAt x y).2.1 (cbAt x y).2.2.1 (cbAt x y).2.2.2.1 ((cbAt x y).2.2.2.2.map intC.enc)
    rw [hw] at hr
    exact D11_ok.rndN hr ⟨hlt, hgm, ⟨rfl, fg⟩, trivial, rfl⟩
   | false =>
    rw [h1] at fg
    cases h2 : qsM x (tsAt x i) y with
    | false =>
     rw [h2] at fq
     have hr := i63na (x.1.map ptC.enc) (x.2.1.map ftC.enc) (x.2.2.1.map cbC.enc) (x.2.2.2.1.map tsC.enc) x.2.2.2.2.1 x.2.2.2.2.2 i y q (cbAt x y).1 (cbAt x y).2.1 (cbAt x y).2.2.1 (cbAt x y).2.2.2.1 ((cbAt x y).2.2.2.2.map intC.enc) (tsAt x i).1 (tsAt x i).2.1 ((tsAt x i).2.2.map strC.enc)
     rw [hw] at hr
     exact D11_ok.rndN hr ⟨hlt, hgm, ⟨rfl, fg⟩, hgt, ⟨rfl, fq⟩, trivial, rfl⟩
    | true =>
     rw [h2] at fq
     have hr := i63ya (x.1.map ptC.enc) (x.2.1.map ftC.enc) (x.2.2.1.map cbC.enc) (x.2.2.2.1.map tsC.enc) x.2.2.2.2.1 x.2.2.2.2.2 i y q (cbAt x y).1 (cbAt x y).2.1 (cbAt x y).2.2.1 (cbAt x y).2.2.2.1 ((cbAt x y).2.2.2.2.map intC.enc) (tsAt x i).1 (tsAt x i).2.1 ((tsAt x i).2.2.map strC.enc)
     rw [hw] at hr
     exact D11_ok.rndN hr ⟨hlt, hgm, ⟨rfl, fg⟩, hgt, ⟨rfl, fq⟩, trivial, rfl⟩)
  (fun q _ => ⟨by rw [List.length_range]; exact D11_ok.rndX (i63xa (x.1.map ptC.enc) (x.2.1.map ftC.enc) (x.2.2.1.map cbC.enc) (x.2.2.2.1.map tsC.enc) x.2.2.2.2.1 x.2.2.2.2.2 i x.2.2.1.length q) ⟨by rw [e_cb]; exact lt_self _, trivial, rfl⟩, by simp⟩)
  (List.range x.2.2.1.length) [] false rfl trivial
 rw [show ([] : List Nat).length = 0 from rfl, goL_any, Bool.false_or] at h
 exact h
theorem inner63b (x : Lb) (hok : okLb x = true) (hz : labM x = 0) (i : Nat) (hi : i < x.2.2.2.1.length) (rs : List AV) (hc : ClosedL rs) :
  LoopRun (CS D11) 0 50 false (lO (CS D11) 63 2) (mkSt [1, 3, 4, 5, 6] [1, 48] 50 [.ptr 1 0 0, .sl 48 1 1 0 rs.length, iA (Int.ofNat i), bA false, iA 0] [lbY x, (false, .arr 1 rs false)]) (.exit 2) (mkSt [1, 3, 4, 5] [1, 48] 50 [.ptr 1 0 0, .sl 48 1 1 0 rs.length, iA (Int.ofNat i), bA (queM x i)] [lbY x, (false, .arr 1 rs false)]) := by
 have K := okLb_at hok
 have hl := limTwo K.cs
 have ht := tsAt_get hi
 have hgt := get_map tsC.enc ht
 have hT := K.ws _ (List.mem_of_getElem? ht)
 have h := LoopRun.list (C := CS D11) (p := 0) (nt := 50) (rd := false) (c := lO (CS D11) 63 2) (step := fun _ (j : Nat) (q : Bool) => (.inl (bif dbM x (tsAt x i) j then true else q) : Bool ⊕ Bool)) (fin := id)
  (enc := fun j q => mkSt [1, 3, 4, 5, 6] [1, 48] 50 [.ptr 1 0 0, .sl 48 1 1 0 rs.length, iA (Int.ofNat i), bA q, iA (Int.ofNat j)] [lbY x, (false, .arr 1 rs false)])
  (ex := fun _ => .exit 2) (out := fun q => mkSt [1, 3, 4, 5] [1, 48] 50 [.ptr 1 0 0, .sl 48 1 1 0 rs.length, iA (Int.ofNat i), bA q] [lbY x, (false, .arr 1 rs false)]) (l := List.range x.2.2.1.length) (fun _ _ => True)
  (fun j y q hy _ => by
   have hj : j < x.2.2.1.length := by have := lt_len hy; rwa [List.length_range] at this
   have e : y = j := by rw [List.getElem?_range hj, Option.some.injEq] at hy; exact hy.symm
   subst e
   have hlt : decide (Int.ofNat y < Int.ofNat (x.2.2.1.map cbC.enc).length) = true := by rw [e_cb]; exact lt_of hj
   have hg := cbAt_get hj
   have hgm := get_map cbC.enc hg
   have fg := spGd hok (cal_ok hz (List.mem_of_getElem? hg))
   have fq := sp147 (t := tsAt x i) hok hT hz hj
   have hw := wrap_ix hj hl
   refine ⟨?_, trivial⟩
   unfold dbM
   cases h1 : goodM x.1 (cbAt x y) with
   | true =>
    rw [h1] at fg
    have hr := i63gb (x.1.map ptC.enc) (x.2.1.map ftC.enc) (x.2.2.1.map cbC.enc) (x.2.2.2.1.map tsC.enc) x.2.2.2.2.1 x.2.2.2.2.2 rs rs.length i y q (cbAt x y).1 (cbAt x y).2.1 (cbAt x y).2.2.1 (cbAt x y).2.2.2.1 ((cbAt x y).2.2.2.2.map intC.enc)
    rw [hw] at hr
    exact D11_ok.rndN hr ⟨hlt, hgm, ⟨rfl, fg⟩, ⟨hc, trivial⟩, rfl⟩
   | false =>
    rw [h1] at fg
    cases h2 : qsM x (tsAt x i) y with
    | false =>
     rw [h2] at fq
     have hr := i63nb (x.1.map ptC.enc) (x.2.1.map ftC.enc) (x.2.2.1.map cbC.enc) (x.2.2.2.1.map tsC.enc) x.2.2.2.2.1 x.2.2.2.2.2 rs rs.length i y q (cbAt x y).1 (cbAt x y).2.1 (cbAt x y).2.2.1 (cbAt x y).2.2.2.1 ((cbAt x y).2.2.2.2.map intC.enc) (tsAt x i).1 (tsAt x i).2.1 ((tsAt x i).2.2.map strC.enc)
     rw [hw] at hr
     exact D11_ok.rndN hr ⟨hlt, hgm, ⟨rfl, fg⟩, hgt, ⟨rfl, fq⟩, ⟨hc, trivial⟩, rfl⟩
    | true =>
     rw [h2] at fq
     have hr := i63yb (x.1.map ptC.enc) (x.2.1.map ftC.enc) (x.2.2.1.map cbC.enc) (x.2.2.2.1.map tsC.enc) x.2.2.2.2.1 x.2.2.2.2.2 rs rs.length i y q (cbAt x y).1 (cbAt x y).2.1 (cbAt x y).2.2.1 (cbAt x y).2.2.2.1 ((cbAt x y).2.2.2.2.map intC.enc) (tsAt x i).1 (tsAt x i).2.1 ((tsAt x i).2.2.map strC.enc)
     rw [hw] at hr
     exact D11_ok.rndN hr ⟨hlt, hgm, ⟨rfl, fg⟩, hgt, ⟨rfl, fq⟩, ⟨hc, trivial⟩, rfl⟩)
  (fun q _ => ⟨by rw [List.length_range]; exact D11_ok.rndX (i63xb (x.1.map ptC.enc) (x.2.1.map ftC.enc) (x.2.2.1.map cbC.enc) (x.2.2.2.1.map tsC.enc) x.2.2.2.2.1 x.2.2.2.2.2 rs rs.length i x.2.2.1.length q) ⟨by rw [e_cb]; exact lt_self _, ⟨hc, trivial⟩, rfl⟩, by simp⟩)
  (List.range x.2.2.1.length) [] false rfl trivial
 rw [show ([] : List Nat).length = 0 from rfl, goL_any, Bool.false_or] at h
 exact h
def qu63G : List AV → Option AV := sp1 labC fun x => bif okLb x && decide (labM x = 0) then some (slA strC 1 (chM x (queM x))) else none
theorem h63 : Holds 63 qu63G := holds1 fun x r hr => by
 cases hb : okLb x && decide (labM x = 0) with
 | false => simp [hb] at hr
 | true =>
  simp only [hb, cond_true, Option.some.injEq] at hr; subst hr
  simp only [Bool.and_eq_true, decide_eq_true_eq] at hb
  obtain ⟨hb, hz⟩ := hb
  have K := okLb_at hb
  have hlim := K.ts
  have hl := limTwo hlim
  have h := LoopRun.pushes (C := CS D11) (p := 0) (nt := 50) (rd := false) (c := lO (CS D11) 63 0) strC.enc (chG (queM x)) (chG_le _) (key := 48) (sz := 1) (ts := [1, 3, 4]) (ks := [1]) (fun i a => [.ptr 1 0 0, a, iA (Int.ofNat i)]) (fun _ => [lbY x])
   (nf := 50) (ts2 := [3]) (fun a => [a]) (ex := .exit 0) x.2.2.2.1 (by simp) (by decide) (by decide) (fun _ => rfl) (fun _ => rfl)
   (fun es n hn => .cons (FzS.sl hn) .nil) (fun es n hn => .cons (.box (.cons (FzS.cl rfl) (.cons (FzS.cl rfl) (.cons (FzS.cl rfl) (.cons (FzS.cl rfl) (.cons (FzS.cl rfl) (.cons (FzS.cl rfl) .nil))))))) .nil) (.cons Weak.nilSl .nil) (.cons .rfl .nil)
   (fun i t ht hg => by
    have hi := lt_len ht
    have hlt : decide (Int.ofNat i < Int.ofNat (x.2.2.2.1.map tsC.enc).length) = true := by rw [e_ts]; exact lt_of hi
    have f := inner63a x hb hz i hi
    rw [chG_no hg] at f
    have hr := (lx x r63na) i false
    rw [wrap_ix hi hl] at hr
    exact D11_ok.rndN hr ⟨hlt, ⟨trivial, trivial, f.says⟩, rfl, trivial, rfl⟩)
   (fun i t rs ht hg hc => by
    have hi := lt_len ht
    have hlt : decide (Int.ofNat i < Int.ofNat (x.2.2.2.1.map tsC.enc).length) = true := by rw [e_ts]; exact lt_of hi
    have f := inner63b x hb hz i hi rs hc
    rw [chG_no hg] at f
    have hr := (lx x r63nb) rs rs.length i false
    rw [wrap_ix hi hl] at hr
    exact D11_ok.rndN hr ⟨hlt, ⟨⟨hc, trivial⟩, ⟨hc, trivial⟩, f.says⟩, rfl, ⟨hc, trivial⟩, rfl⟩)
   (fun i t y ht hg => by
    have hi := lt_len ht
    have hlt : decide (Int.ofNat i < Int.ofNat (x.2.2.2.1.map tsC.enc).length) = true := by rw [e_ts]; exact lt_of hi
    obtain ⟨h1, rfl⟩ := chG_yes hg
    have f := inner63a x hb hz i hi
    rw [h1] at f
    have hr := (lx x r63ya) i true t.1 t.2.1 (t.2.2.map strC.enc)
    rw [wrap_ix hi hl] at hr
    exact D11_ok.rndN hr ⟨hlt, ⟨trivial, trivial, f.says⟩, rfl, get_map tsC.enc ht, ⟨closedStr [t.1], trivial⟩, rfl⟩)
   (fun i t y rs ht hg hc hrs => by
    have hi := lt_len ht
    have hlt : decide (Int.ofNat i < Int.ofNat (x.2.2.2.1.map tsC.enc).length) = true := by rw [e_ts]; exact lt_of hi
    obtain ⟨h1, rfl⟩ := chG_yes hg
    have f := inner63b x hb hz i hi rs hc
    rw [h1] at f
    have hlen : (rs ++ [strC.enc t.1]).length ≤ 1000001 := by rw [List.length_append]; unfold lim at hlim; simp; omega
    have hr := (lx x r63yb) rs rs.length i true t.1 t.2.1 (t.2.2.map strC.enc)
    rw [wrap_ix hi hl] at hr
    exact D11_ok.rndN hr ⟨hlt, ⟨⟨hc, trivial⟩, ⟨hc, trivial⟩, f.says⟩, rfl, get_map tsC.enc ht, ⟨rfl, rfl, rfl, by show (rs ++ [strC.enc t.1]).length * 16 ≤ _; omega, by show (rs ++ [strC.enc t.1]).length ≤ _; omega, by decide⟩, ⟨hc.append (closedStr [t.1]), trivial⟩, rfl⟩)
   (D11_ok.rndX ((lx x r63xa) x.2.2.2.1.length) ⟨by rw [e_ts]; exact lt_self _, trivial, rfl⟩)
   (fun rs hc => D11_ok.rndX ((lx x r63xb) rs rs.length x.2.2.2.1.length) ⟨by rw [e_ts]; exact lt_self _, ⟨hc, trivial⟩, rfl⟩)
  exact D11_ok.tr ((lx x t63) ((chM x (queM x)).map strC.enc)) ⟨⟨trivial, trivial, h.says⟩, rfl⟩
noncomputable def D12 : Specs := (D11.set 63 qu63G)
theorem D12_ok : Ok D12 := (D11_ok.set h63)
end Go.Vm.S3

namespace Go.Vm.S3
open Go.Proofs Go.RowKit
set_option maxRecDepth 100000
variable (ps fs cs ts : List AV) (d u : Int)
set_option maxRecDepth 20000
theorem i62ta (i j : Nat) (w : List AV) (y : ByteArray) : Lr D12 62 43 2 [1, 3, 4, 5, 6, 7] [1] [1, 3, 4, 5, 6, 7] [1] [1, 3, 4, 6] [1] [.ptr 1 0 0, nilS, iA (Int.ofNat i), .rsl 1 w false, bA true, iA (Int.ofNat j)] [lbX ps fs cs ts d u] [.as 21 true, .chk [sA y]] [.t j w.length, .g w j] .nrm [.ptr 1 0 0, .v (.slice none 0 0), iA (Int.ofNat i), .rsl 1 w false, bA (y.toList == (ByteArray.mk #[]).toList), iA (IntKind.i64.wrap (Int.ofNat j + 1))] [lbX ps fs cs ts d u] := kn (by kernel_rfl)
theorem i62fa (i j : Nat) (w : List AV) : Lr D12 62 43 2 [1, 3, 4, 5, 6, 7] [1] [1, 3, 4, 5, 6, 7] [1] [1, 3, 4, 6] [1] [.ptr 1 0 0, nilS, iA (Int.ofNat i), .rsl 1 w false, bA false, iA (Int.ofNat j)] [lbX ps fs cs ts d u] [.as 21 true] [.t j w.length] .nrm [.ptr 1 0 0, .v (.slice none 0 0), iA (Int.ofNat i), .rsl 1 w false, bA false, iA (IntKind.i64.wrap (Int.ofNat j + 1))] [lbX ps fs cs ts d u] := kn (by kernel_rfl)
theorem i62xa (i j : Nat) (w : List AV) (q : Bool) : Lr D12 62 43 2 [1, 3, 4, 5, 6, 7] [1] [1, 3, 4, 5, 6, 7] [1] [1, 3, 4, 6] [1] [.ptr 1 0 0, nilS, iA (Int.ofNat i), .rsl 1 w false, bA q, iA (Int.ofNat j)] [lbX ps fs cs ts d u] [.as 21 false] [.t j w.length] (.exit 2) [.ptr 1 0 0, .v (.slice none 0 0), iA (Int.ofNat i), bA q] [lbX ps fs cs ts d u] := kn (by kernel_rfl)
theorem r62na (i : Nat) (w : List AV) (q : Bool) : Lr D12 62 43 0 [1, 3, 4] [1] [1, 3, 4] [1] [3] [1] [.ptr 1 0 0, nilS, iA (Int.ofNat i)] [lbX ps fs cs ts d u] [.as 12 true, .sp [lbE ps fs cs ts d u, iA (Int.ofNat i)] (.rsl 1 w false), .loop 0 [1, 3, 4, 5, 6, 7] [1] [1, 3, 4, 6] [1] (.exit 2) [.ptr 1 0 0, nilS, iA (Int.ofNat i), bA q] [lbX ps fs cs ts d u], .as 32 false] [.t i ts.length, .f 57, .l 43 62 2 43 [.ptr 1 0 0, .v (.slice none 0 0), iA (Int.ofNat i), .rsl 1 w false, bA true, iA 0] [lbX ps fs cs ts d u], .b q] .nrm [.ptr 1 0 0, .v (.slice none 0 0), iA (IntKind.i64.wrap (Int.ofNat i + 1))] [lbX ps fs cs ts d u] := kn (by kernel_rfl)
theorem r62ya (i : Nat) (w : List AV) (q : Bool) (ta : ByteArray) (tn : Int) (ws : List AV) : Lr D12 62 43 0 [1, 3, 4] [1] [1, 3, 4] [1, 41] [3] [1] [.ptr 1 0 0, nilS, iA (Int.ofNat i)] [lbX ps fs cs ts d u] [.as 12 true, .sp [lbE ps fs cs ts d u, iA (Int.ofNat i)] (.rsl 1 w false), .loop 0 [1, 3, 4, 5, 6, 7] [1] [1, 3, 4, 6] [1] (.exit 2) [.ptr 1 0 0, nilS, iA (Int.ofNat i), bA q] [lbX ps fs cs ts d u], .as 32 true, .chk [.agg [sA ta, iA tn, .rsl 1 ws false]]] [.t i ts.length, .f 57, .l 43 62 2 43 [.ptr 1 0 0, .v (.slice none 0 0), iA (Int.ofNat i), .rsl 1 w false, bA true, iA 0] [lbX ps fs cs ts d u], .b q, .g ts i] .nrm [.ptr 1 0 0, .sl 41 1 1 0 1, iA (IntKind.i64.wrap (Int.ofNat i + 1))] [lbX ps fs cs ts d u, (false, .arr 1 [sA ta] false)] := kn (by kernel_rfl)
theorem r62xa (i : Nat) : Lr D12 62 43 0 [1, 3, 4] [1] [1, 3, 4] [1] [3] [1] [.ptr 1 0 0, nilS, iA (Int.ofNat i)] [lbX ps fs cs ts d u] [.as 12 false] [.t i ts.length] (.exit 0) [.v (.slice none 0 0)] [lbX ps fs cs ts d u] := kn (by kernel_rfl)
theorem i62tb (rs : List AV) (m : Nat) (i j : Nat) (w : List AV) (y : ByteArray) : Lr D12 62 43 2 [1, 3, 4, 5, 6, 7] [1, 41] [1, 3, 4, 5, 6, 7] [1, 41] [1, 3, 4, 6] [1, 41] [.ptr 1 0 0, .sl 41 1 1 0 m, iA (Int.ofNat i), .rsl 1 w false, bA true, iA (Int.ofNat j)] [lbX ps fs cs ts d u, (false, .arr 1 rs false)] [.as 21 true, .chk [sA y]] [.t j w.length, .g w j] .nrm [.ptr 1 0 0, .sl 41 1 1 0 m, iA (Int.ofNat i), .rsl 1 w false, bA (y.toList == (ByteArray.mk #[]).toList), iA (IntKind.i64.wrap (Int.ofNat j + 1))] [lbX ps fs cs ts d u, (false, .arr 1 rs false)] := kn (by kernel_rfl)
theorem i62fb (rs : List AV) (m : Nat) (i j : Nat) (w : List AV) : Lr D12 62 43 2 [1, 3, 4, 5, 6, 7] [1, 41] [1, 3, 4, 5, 6, 7] [1, 41] [1, 3, 4, 6] [1, 41] [.ptr 1 0 0, .sl 41 1 1 0 m, iA (Int.ofNat i), .rsl 1 w false, bA false, iA (Int.ofNat j)] [lbX ps fs cs ts d u, (false, .arr 1 rs false)] [.as 21 true] [.t j w.length] .nrm [.ptr 1 0 0, .sl 41 1 1 0 m, iA (Int.ofNat i), .rsl 1 w false, bA false, iA (IntKind.i64.wrap (Int.ofNat j + 1))] [lbX ps fs cs ts d u, (false, .arr 1 rs false)] := kn (by kernel_rfl)
theorem i62xb (rs : List AV) (m : Nat) (i j : Nat) (w : List AV) (q : Bool) : Lr D12 62 43 2 [1, 3, 4, 5, 6, 7] [1, 41] [1, 3, 4, 5, 6, 7] [1, 41] [1, 3, 4, 6] [1, 41] [.ptr 1 0 0, .sl 41 1 1 0 m, iA (Int.ofNat i), .rsl 1 w false, bA q, iA (Int.ofNat j)] [lbX ps fs cs ts d u, (false, .arr 1 rs false)] [.as 21 false] [.t j w.length] (.exit 2) [.ptr 1 0 0, .sl 41 1 1 0 m, iA (Int.ofNat i), bA q] [lbX ps fs cs ts d u, (false, .arr 1 rs false)] := kn (by kernel_rfl)
abbrev cD13_6 (ps fs cs ts : List AV) (d u : Int) (rs : List AV) (m i : Nat) (w : List AV) (q : Bool) (h9 : List Hn) (a9 : List An) (x9 : Ex) (v9 : List AV) (e9 : List (Bool × Blk)) : Prop := Lr D12 62 43 0 [1, 3, 4] [1, 41] [1, 3, 4] [1, 41] [3] [1, 41] [.ptr 1 0 0, .sl 41 1 1 0 m, iA (Int.ofNat i)] [lbX ps fs cs ts d u, (false, .arr 1 rs false)] ([.as 12 true, .sp [lbE ps fs cs ts d u, iA (Int.ofNat i)] (.rsl 1 w false), .loop 0 [1, 3, 4, 5, 6, 7] [1, 41] [1, 3, 4, 6] [1, 41] (.exit 2) [.ptr 1 0 0, .sl 41 1 1 0 m, iA (Int.ofNat i), bA q] [lbX ps fs cs ts d u, (false, .arr 1 rs false)]] ++ h9) ([.t i ts.length, .f 57, .l 43 62 2 43 [.ptr 1 0 0, .sl 41 1 1 0 m, iA (Int.ofNat i), .rsl 1 w false, bA true, iA 0] [lbX ps fs cs ts d u, (false, .arr 1 rs false)]] ++ a9) x9 v9 e9
theorem r62nb (rs : List AV) (m : Nat) (i : Nat) (w : List AV) (q : Bool) : cD13_6 ps fs cs ts d u rs m i w q [.as 32 false] [.b q] .nrm [.ptr 1 0 0, .sl 41 1 1 0 m, iA (IntKind.i64.wrap (Int.ofNat i + 1))] [lbX ps fs cs ts d u, (false, .arr 1 rs false)] := kn (by kernel_rfl)
theorem r62yb (rs : List AV) (m : Nat) (i : Nat) (w : List AV) (q : Bool) (ta : ByteArray) (tn : Int) (ws : List AV) : cD13_6 ps fs cs ts d u rs m i w q [.as 32 true, .chk [.agg [sA ta, iA tn, .rsl 1 ws false]], .chk rs] [.b q, .g ts i, .k (apn m rs 1 [sA ta] 16)] .nrm [.ptr 1 0 0, .sl 41 1 1 0 ((rs ++ ([sA ta] : List AV)).length), iA (IntKind.i64.wrap (Int.ofNat i + 1))] [lbX ps fs cs ts d u, (false, .arr 1 (rs ++ ([sA ta] : List AV)) false)] := kn (by kernel_rfl)
theorem r62xb (rs : List AV) (m : Nat) (i : Nat) : Lr D12 62 43 0 [1, 3, 4] [1, 41] [1, 3, 4] [1, 41] [3] [1, 41] [.ptr 1 0 0, .sl 41 1 1 0 m, iA (Int.ofNat i)] [lbX ps fs cs ts d u, (false, .arr 1 rs false)] [.as 12 false] [.t i ts.length] (.exit 0) [.sl 41 1 1 0 m] [lbX ps fs cs ts d u, (false, .arr 1 rs false)] := kn (by kernel_rfl)
theorem t62 (rs : List AV) : L D12 62 [lbE ps fs cs ts d u] [.loop 0 [1, 3, 4] [1] [3] [1] (.exit 0) [.rsl 1 rs false] [lbX ps fs cs ts d u]] [.l 43 62 0 43 [.ptr 1 0 0, .v (.slice none 0 0), iA 0] [lbX ps fs cs ts d u]] (.rsl 1 rs false) := kr (by kernel_rfl)
theorem goL_nils : ∀ (k : List ByteArray) (i : Nat) (q : Bool), goL (fun _ (y : ByteArray) (q : Bool) => (.inl (bif q then nilB y else false) : Bool ⊕ Bool)) id i k q = (q && !k.any fun w => !nilB w)
 | [], i, q => by simp [goL]
 | y :: k, i, q => by
  unfold goL
  simp only [goL_nils k, List.any_cons]
  cases nilB y <;> cases q <;> simp
theorem inner62a (x : Lb) (hok : okLb x = true) (_hz : labM x = 0) (i : Nat) (hi : i < x.2.2.2.1.length) :
  LoopRun (CS D12) 0 43 false (lO (CS D12) 62 2) (mkSt [1, 3, 4, 5, 6, 7] [1] 43 [.ptr 1 0 0, nilS, iA (Int.ofNat i), .rsl 1 ((wrgM x i).map strC.enc) false, bA true, iA 0] [lbY x]) (.exit 2) (mkSt [1, 3, 4, 6] [1] 43 [.ptr 1 0 0, nilS, iA (Int.ofNat i), bA (covM x i)] [lbY x]) := by
 have hl := limTwo (wrg_lim hok hi)
 have h := LoopRun.list (C := CS D12) (p := 0) (nt := 43) (rd := false) (c := lO (CS D12) 62 2) (step := fun _ (y : ByteArray) (q : Bool) => (.inl (bif q then nilB y else false) : Bool ⊕ Bool)) (fin := id)
  (enc := fun j q => mkSt [1, 3, 4, 5, 6, 7] [1] 43 [.ptr 1 0 0, nilS, iA (Int.ofNat i), .rsl 1 ((wrgM x i).map strC.enc) false, bA q, iA (Int.ofNat j)] [lbY x])
  (ex := fun _ => .exit 2) (out := fun q => mkSt [1, 3, 4, 6] [1] 43 [.ptr 1 0 0, nilS, iA (Int.ofNat i), bA q] [lbY x]) (l := wrgM x i) (fun _ _ => True)
  (fun j y q hy _ => by
   have hj := lt_len hy
   have hlt : decide (Int.ofNat j < Int.ofNat ((wrgM x i).map strC.enc).length) = true := by rw [e_st]; exact lt_of hj
   have hw := wrap_ix hj hl
   refine ⟨?_, trivial⟩
   cases q with
   | true =>
    have hr := i62ta (x.1.map ptC.enc) (x.2.1.map ftC.enc) (x.2.2.1.map cbC.enc) (x.2.2.2.1.map tsC.enc) x.2.2.2.2.1 x.2.2.2.2.2 i j ((wrgM x i).map strC.enc) y
    rw [hw] at hr
    exact D12_ok.rndN hr ⟨hlt, get_map strC.enc hy, trivial, rfl⟩
   | false =>
    have hr := i62fa (x.1.map ptC.enc) (x.2.1.map ftC.enc) (x.2.2.1.map cbC.enc) (x.2.2.2.1.map tsC.enc) x.2.2.2.2.1 x.2.2.2.2.2 i j ((wrgM x i).map strC.enc)
    rw [hw] at hr
    exact D12_ok.rndN hr ⟨hlt, trivial, rfl⟩)
  (fun q _ => ⟨D12_ok.rndX (i62xa (x.1.map ptC.enc) (x.2.1.map ftC.enc) (x.2.2.1.map cbC.enc) (x.2.2.2.1.map tsC.enc) x.2.2.2.2.1 x.2.2.2.2.2 i (wrgM x i).length ((wrgM x i).map strC.enc) q) ⟨by rw [e_st]; exact lt_self _, trivial, rfl⟩, by simp⟩)
  (wrgM x i) [] true rfl trivial
 rw [show ([] : List ByteArray).length = 0 from rfl, goL_nils, Bool.true_and] at h
 exact h
theorem inner62b (x : Lb) (hok : okLb x = true) (_hz : labM x = 0) (i : Nat) (hi : i < x.2.2.2.1.length) (rs : List AV) (hc : ClosedL rs) :
  LoopRun (CS D12) 0 43 false (lO (CS D12) 62 2) (mkSt [1, 3, 4, 5, 6, 7] [1, 41] 43 [.ptr 1 0 0, .sl 41 1 1 0 rs.length, iA (Int.ofNat i), .rsl 1 ((wrgM x i).map strC.enc) false, bA true, iA 0] [lbY x, (false, .arr 1 rs false)]) (.exit 2) (mkSt [1, 3, 4, 6] [1, 41] 43 [.ptr 1 0 0, .sl 41 1 1 0 rs.length, iA (Int.ofNat i), bA (covM x i)] [lbY x, (false, .arr 1 rs false)]) := by
 have hl := limTwo (wrg_lim hok hi)
 have h := LoopRun.list (C := CS D12) (p := 0) (nt := 43) (rd := false) (c := lO (CS D12) 62 2) (step := fun _ (y : ByteArray) (q : Bool) => (.inl (bif q then nilB y else false) : Bool ⊕ Bool)) (fin := id)
  (enc := fun j q => mkSt [1, 3, 4, 5, 6, 7] [1, 41] 43 [.ptr 1 0 0, .sl 41 1 1 0 rs.length, iA (Int.ofNat i), .rsl 1 ((wrgM x i).map strC.enc) false, bA q, iA (Int.ofNat j)] [lbY x, (false, .arr 1 rs false)])
  (ex := fun _ => .exit 2) (out := fun q => mkSt [1, 3, 4, 6] [1, 41] 43 [.ptr 1 0 0, .sl 41 1 1 0 rs.length, iA (Int.ofNat i), bA q] [lbY x, (false, .arr 1 rs false)]) (l := wrgM x i) (fun _ _ => True)
  (fun j y q hy _ => by
   have hj := lt_len hy
   have hlt : decide (Int.ofNat j < Int.ofNat ((wrgM x i).map strC.enc).length) = true := by rw [e_st]; exact lt_of hj
   have hw := wrap_ix hj hl
   refine ⟨?_, trivial⟩
   cases q with
   | true =>
    have hr := i62tb (x.1.map ptC.enc) (x.2.1.map ftC.enc) (x.2.2.1.map cbC.enc) (x.2.2.2.1.map tsC.enc) x.2.2.2.2.1 x.2.2.2.2.2 rs rs.length i j ((wrgM x i).map strC.enc) y
    rw [hw] at hr
    exact D12_ok.rndN hr ⟨hlt, get_map strC.enc hy, ⟨hc, trivial⟩, rfl⟩
   | false =>
    have hr := i62fb (x.1.map ptC.enc) (x.2.1.map ftC.enc) (x.2.2.1.map cbC.enc) (x.2.2.2.1.map tsC.enc) x.2.2.2.2.1 x.2.2.2.2.2 rs rs.length i j ((wrgM x i).map strC.enc)
    rw [hw] at hr
    exact D12_ok.rndN hr ⟨hlt, ⟨hc, trivial⟩, rfl⟩)
  (fun q _ => ⟨D12_ok.rndX (i62xb (x.1.map ptC.enc) (x.2.1.map ftC.enc) (x.2.2.1.map cbC.enc) (x.2.2.2.1.map tsC.enc) x.2.2.2.2.1 x.2.2.2.2.2 rs rs.length i (wrgM x i).length ((wrgM x i).map strC.enc) q) ⟨by rw [e_st]; exact lt_self _, ⟨hc, trivial⟩, rfl⟩, by simp⟩)
  (wrgM x i) [] true rfl trivial
 rw [show ([] : List ByteArray).length = 0 from rfl, goL_nils, Bool.true_and] at h
 exact h
def cv62G : List AV → Option AV := sp1 labC fun x => bif okLb x && decide (labM x = 0) then some (slA strC 1 (chM x (covM x))) else none
theorem h62 : Holds 62 cv62G := holds1 fun x r hr => by
 cases hb : okLb x && decide (labM x = 0) with
 | false => simp [hb] at hr
 | true =>
  simp only [hb, cond_true, Option.some.injEq] at hr; subst hr
  simp only [Bool.and_eq_true, decide_eq_true_eq] at hb
  obtain ⟨hb, hz⟩ := hb
  have K := okLb_at hb
  have hlim := K.ts
  have hl := limTwo hlim
  have h := LoopRun.pushes (C := CS D12) (p := 0) (nt := 43) (rd := false) (c := lO (CS D12) 62 0) strC.enc (chG (covM x)) (chG_le _) (key := 41) (sz := 1) (ts := [1, 3, 4]) (ks := [1]) (fun i a => [.ptr 1 0 0, a, iA (Int.ofNat i)]) (fun _ => [lbY x])
   (nf := 43) (ts2 := [3]) (fun a => [a]) (ex := .exit 0) x.2.2.2.1 (by simp) (by decide) (by decide) (fun _ => rfl) (fun _ => rfl)
   (fun es n hn => .cons (FzS.sl hn) .nil) (fun es n hn => .cons (.box (.cons (FzS.cl rfl) (.cons (FzS.cl rfl) (.cons (FzS.cl rfl) (.cons (FzS.cl rfl) (.cons (FzS.cl rfl) (.cons (FzS.cl rfl) .nil))))))) .nil) (.cons Weak.nilSl .nil) (.cons .rfl .nil)
   (fun i t ht hg => by
    have hi := lt_len ht
    have hlt : decide (Int.ofNat i < Int.ofNat (x.2.2.2.1.map tsC.enc).length) = true := by rw [e_ts]; exact lt_of hi
    have f := inner62a x hb hz i hi
    rw [chG_no hg] at f
    have hr := (lx x r62na) i ((wrgM x i).map strC.enc) false
    rw [wrap_ix hi hl] at hr
    exact D12_ok.rndN hr ⟨hlt, ⟨rfl, spWrg hb hz hi⟩, ⟨trivial, trivial, f.says⟩, rfl, trivial, rfl⟩)
   (fun i t rs ht hg hc => by
    have hi := lt_len ht
    have hlt : decide (Int.ofNat i < Int.ofNat (x.2.2.2.1.map tsC.enc).length) = true := by rw [e_ts]; exact lt_of hi
    have f := inner62b x hb hz i hi rs hc
    rw [chG_no hg] at f
    have hr := (lx x r62nb) rs rs.length i ((wrgM x i).map strC.enc) false
    rw [wrap_ix hi hl] at hr
    exact D12_ok.rndN hr ⟨hlt, ⟨rfl, spWrg hb hz hi⟩, ⟨⟨hc, trivial⟩, ⟨hc, trivial⟩, f.says⟩, rfl, ⟨hc, trivial⟩, rfl⟩)
   (fun i t y ht hg => by
    have hi := lt_len ht
    have hlt : decide (Int.ofNat i < Int.ofNat (x.2.2.2.1.map tsC.enc).length) = true := by rw [e_ts]; exact lt_of hi
    obtain ⟨h1, rfl⟩ := chG_yes hg
    have f := inner62a x hb hz i hi
    rw [h1] at f
    have hr := (lx x r62ya) i ((wrgM x i).map strC.enc) true t.1 t.2.1 (t.2.2.map strC.enc)
    rw [wrap_ix hi hl] at hr
    exact D12_ok.rndN hr ⟨hlt, ⟨rfl, spWrg hb hz hi⟩, ⟨trivial, trivial, f.says⟩, rfl, get_map tsC.enc ht, ⟨closedStr [t.1], trivial⟩, rfl⟩)
   (fun i t y rs ht hg hc hrs => by
    have hi := lt_len ht
    have hlt : decide (Int.ofNat i < Int.ofNat (x.2.2.2.1.map tsC.enc).length) = true := by rw [e_ts]; exact lt_of hi
    obtain ⟨h1, rfl⟩ := chG_yes hg
    have f := inner62b x hb hz i hi rs hc
    rw [h1] at f
    have hlen : (rs ++ [strC.enc t.1]).length ≤ 1000001 := by rw [List.length_append]; unfold lim at hlim; simp; omega
    have hr := (lx x r62yb) rs rs.length i ((wrgM x i).map strC.enc) true t.1 t.2.1 (t.2.2.map strC.enc)
    rw [wrap_ix hi hl] at hr
    exact D12_ok.rndN hr ⟨hlt, ⟨rfl, spWrg hb hz hi⟩, ⟨⟨hc, trivial⟩, ⟨hc, trivial⟩, f.says⟩, rfl, get_map tsC.enc ht, ⟨rfl, rfl, rfl, by show (rs ++ [strC.enc t.1]).length * 16 ≤ _; omega, by show (rs ++ [strC.enc t.1]).length ≤ _; omega, by decide⟩, ⟨hc.append (closedStr [t.1]), trivial⟩, rfl⟩)
   (D12_ok.rndX ((lx x r62xa) x.2.2.2.1.length) ⟨by rw [e_ts]; exact lt_self _, trivial, rfl⟩)
   (fun rs hc => D12_ok.rndX ((lx x r62xb) rs rs.length x.2.2.2.1.length) ⟨by rw [e_ts]; exact lt_self _, ⟨hc, trivial⟩, rfl⟩)
  exact D12_ok.tr ((lx x t62) ((chM x (covM x)).map strC.enc)) ⟨⟨trivial, trivial, h.says⟩, rfl⟩
noncomputable def D13 : Specs := (D12.set 62 cv62G)
theorem D13_ok : Ok D13 := (D12_ok.set h62)
end Go.Vm.S3

namespace Go.Vm.S3
open Go.Proofs Go.RowKit
set_option maxRecDepth 100000
variable (ps fs cs ts : List AV) (d u : Int)
set_option maxRecDepth 20000
theorem r64na (day : Int) (i : Nat) (ta : ByteArray) (tn : Int) (ws : List AV) : Lr D13 64 60 0 [1, 2, 5, 6] [2] [1, 2, 5, 6] [2] [1, 2, 5] [2] [iA day, .ptr 2 0 0, nilS, iA (Int.ofNat i)] [lbX ps fs cs ts d u] [.as 13 true, .chk [.agg [sA ta, iA tn, .rsl 1 ws false]], .as 23 false] [.t i ts.length, .g ts i, .b (decide (tn ≤ day))] .nrm [iA day, .ptr 2 0 0, .v (.slice none 0 0), iA (IntKind.i64.wrap (Int.ofNat i + 1))] [lbX ps fs cs ts d u] := kn (by kernel_rfl)
theorem r64ya (day : Int) (i : Nat) (ta : ByteArray) (tn : Int) (ws : List AV) : Lr D13 64 60 0 [1, 2, 5, 6] [2] [1, 2, 5, 6] [2, 31] [1, 2, 5] [2] [iA day, .ptr 2 0 0, nilS, iA (Int.ofNat i)] [lbX ps fs cs ts d u] [.as 13 true, .chk [.agg [sA ta, iA tn, .rsl 1 ws false]], .as 23 true, .chk [.agg [sA ta, iA tn, .rsl 1 ws false]]] [.t i ts.length, .g ts i, .b (decide (tn ≤ day)), .g ts i] .nrm [iA day, .ptr 2 0 0, .sl 31 1 3 0 1, iA (IntKind.i64.wrap (Int.ofNat i + 1))] [lbX ps fs cs ts d u, (false, .arr 3 [.agg [sA ta, iA tn, .rsl 1 ws false]] false)] := kn (by kernel_rfl)
theorem r64xa (day : Int) (i : Nat) : Lr D13 64 60 0 [1, 2, 5, 6] [2] [1, 2, 5, 6] [2] [1, 2, 5] [2] [iA day, .ptr 2 0 0, nilS, iA (Int.ofNat i)] [lbX ps fs cs ts d u] [.as 13 false] [.t i ts.length] (.exit 0) [iA day, .ptr 2 0 0, .v (.slice none 0 0)] [lbX ps fs cs ts d u] := kn (by kernel_rfl)
theorem r64nb (day : Int) (rs : List AV) (m : Nat) (i : Nat) (ta : ByteArray) (tn : Int) (ws : List AV) : Lr D13 64 60 0 [1, 2, 5, 6] [2, 31] [1, 2, 5, 6] [2, 31] [1, 2, 5] [2, 31] [iA day, .ptr 2 0 0, .sl 31 1 3 0 m, iA (Int.ofNat i)] [lbX ps fs cs ts d u, (false, .arr 3 rs false)] [.as 13 true, .chk [.agg [sA ta, iA tn, .rsl 1 ws false]], .as 23 false] [.t i ts.length, .g ts i, .b (decide (tn ≤ day))] .nrm [iA day, .ptr 2 0 0, .sl 31 1 3 0 m, iA (IntKind.i64.wrap (Int.ofNat i + 1))] [lbX ps fs cs ts d u, (false, .arr 3 rs false)] := kn (by kernel_rfl)
theorem r64yb (day : Int) (rs : List AV) (m : Nat) (i : Nat) (ta : ByteArray) (tn : Int) (ws : List AV) : Lr D13 64 60 0 [1, 2, 5, 6] [2, 31] [1, 2, 5, 6] [2, 31] [1, 2, 5] [2, 31] [iA day, .ptr 2 0 0, .sl 31 1 3 0 m, iA (Int.ofNat i)] [lbX ps fs cs ts d u, (false, .arr 3 rs false)] [.as 13 true, .chk [.agg [sA ta, iA tn, .rsl 1 ws false]], .as 23 true, .chk [.agg [sA ta, iA tn, .rsl 1 ws false]], .chk rs] [.t i ts.length, .g ts i, .b (decide (tn ≤ day)), .g ts i, .k (apn m rs 3 [.agg [sA ta, iA tn, .rsl 1 ws false]] 48)] .nrm [iA day, .ptr 2 0 0, .sl 31 1 3 0 ((rs ++ ([.agg [sA ta, iA tn, .rsl 1 ws false]] : List AV)).length), iA (IntKind.i64.wrap (Int.ofNat i + 1))] [lbX ps fs cs ts d u, (false, .arr 3 (rs ++ ([.agg [sA ta, iA tn, .rsl 1 ws false]] : List AV)) false)] := kn (by kernel_rfl)
theorem r64xb (day : Int) (rs : List AV) (m : Nat) (i : Nat) : Lr D13 64 60 0 [1, 2, 5, 6] [2, 31] [1, 2, 5, 6] [2, 31] [1, 2, 5] [2, 31] [iA day, .ptr 2 0 0, .sl 31 1 3 0 m, iA (Int.ofNat i)] [lbX ps fs cs ts d u, (false, .arr 3 rs false)] [.as 13 false] [.t i ts.length] (.exit 0) [iA day, .ptr 2 0 0, .sl 31 1 3 0 m] [lbX ps fs cs ts d u, (false, .arr 3 rs false)] := kn (by kernel_rfl)
theorem s64na (day : Int) (es : List AV) (i : Nat) (pa pb : ByteArray) (pm px py pz : Int) (co : List AV) (z : ByteArray) : Lr D13 64 60 2 [1, 2, 5, 7, 8] [2] [1, 2, 5, 7, 8] [2] [7] [2] [iA day, .ptr 2 0 0, .rsl 3 es false, nilS, iA (Int.ofNat i)] [lbX ps fs cs ts d u] [.as 36 true, .chk [.agg [sA pa, sA pb, iA pm, iA px, iA py, iA pz, .rsl 2 co false]], .sp [lbE ps fs cs ts d u, sA pa, iA day, .rsl 3 es false] (sA z), .as 49 false] [.t i ps.length, .g ps i, .f 139, .b (!(z.toList == (ByteArray.mk #[]).toList))] .nrm [iA day, .ptr 2 0 0, .rsl 3 es false, .v (.slice none 0 0), iA (IntKind.i64.wrap (Int.ofNat i + 1))] [lbX ps fs cs ts d u] := kn (by kernel_rfl)
theorem s64ya (day : Int) (es : List AV) (i : Nat) (pa pb : ByteArray) (pm px py pz : Int) (co : List AV) (z : ByteArray) : Lr D13 64 60 2 [1, 2, 5, 7, 8] [2] [1, 2, 5, 7, 8] [2, 58] [7] [2] [iA day, .ptr 2 0 0, .rsl 3 es false, nilS, iA (Int.ofNat i)] [lbX ps fs cs ts d u] [.as 36 true, .chk [.agg [sA pa, sA pb, iA pm, iA px, iA py, iA pz, .rsl 2 co false]], .sp [lbE ps fs cs ts d u, sA pa, iA day, .rsl 3 es false] (sA z), .as 49 true, .chk [.agg [sA pa, sA pb, iA pm, iA px, iA py, iA pz, .rsl 2 co false]]] [.t i ps.length, .g ps i, .f 139, .b (!(z.toList == (ByteArray.mk #[]).toList)), .g ps i] .nrm [iA day, .ptr 2 0 0, .rsl 3 es false, .sl 58 1 1 0 1, iA (IntKind.i64.wrap (Int.ofNat i + 1))] [lbX ps fs cs ts d u, (false, .arr 1 [sA pa] false)] := kn (by kernel_rfl)
theorem s64xa (day : Int) (es : List AV) (i : Nat) : Lr D13 64 60 2 [1, 2, 5, 7, 8] [2] [1, 2, 5, 7, 8] [2] [7] [2] [iA day, .ptr 2 0 0, .rsl 3 es false, nilS, iA (Int.ofNat i)] [lbX ps fs cs ts d u] [.as 36 false] [.t i ps.length] (.exit 2) [.v (.slice none 0 0)] [lbX ps fs cs ts d u] := kn (by kernel_rfl)
theorem s64nb (day : Int) (es : List AV) (rs : List AV) (m : Nat) (i : Nat) (pa pb : ByteArray) (pm px py pz : Int) (co : List AV) (z : ByteArray) : Lr D13 64 60 2 [1, 2, 5, 7, 8] [2, 58] [1, 2, 5, 7, 8] [2, 58] [7] [2, 58] [iA day, .ptr 2 0 0, .rsl 3 es false, .sl 58 1 1 0 m, iA (Int.ofNat i)] [lbX ps fs cs ts d u, (false, .arr 1 rs false)] [.as 36 true, .chk [.agg [sA pa, sA pb, iA pm, iA px, iA py, iA pz, .rsl 2 co false]], .sp [lbE ps fs cs ts d u, sA pa, iA day, .rsl 3 es false] (sA z), .as 49 false] [.t i ps.length, .g ps i, .f 139, .b (!(z.toList == (ByteArray.mk #[]).toList))] .nrm [iA day, .ptr 2 0 0, .rsl 3 es false, .sl 58 1 1 0 m, iA (IntKind.i64.wrap (Int.ofNat i + 1))] [lbX ps fs cs ts d u, (false, .arr 1 rs false)] := kn (by kernel_rfl)
theorem s64yb (day : Int) (es : List AV) (rs : List AV) (m : Nat) (i : Nat) (pa pb : ByteArray) (pm px py pz : Int) (co : List AV) (z : ByteArray) : Lr D13 64 60 2 [1, 2, 5, 7, 8] [2, 58] [1, 2, 5, 7, 8] [2, 58] [7] [2, 58] [iA day, .ptr 2 0 0, .rsl 3 es false, .sl 58 1 1 0 m, iA (Int.ofNat i)] [lbX ps fs cs ts d u, (false, .arr 1 rs false)] [.as 36 true, .chk [.agg [sA pa, sA pb, iA pm, iA px, iA py, iA pz, .rsl 2 co false]], .sp [lbE ps fs cs ts d u, sA pa, iA day, .rsl 3 es false] (sA z), .as 49 true, .chk [.agg [sA pa, sA pb, iA pm, iA px, iA py, iA pz, .rsl 2 co false]], .chk rs] [.t i ps.length, .g ps i, .f 139, .b (!(z.toList == (ByteArray.mk #[]).toList)), .g ps i, .k (apn m rs 1 [sA pa] 16)] .nrm [iA day, .ptr 2 0 0, .rsl 3 es false, .sl 58 1 1 0 ((rs ++ ([sA pa] : List AV)).length), iA (IntKind.i64.wrap (Int.ofNat i + 1))] [lbX ps fs cs ts d u, (false, .arr 1 (rs ++ ([sA pa] : List AV)) false)] := kn (by kernel_rfl)
theorem s64xb (day : Int) (es : List AV) (rs : List AV) (m : Nat) (i : Nat) : Lr D13 64 60 2 [1, 2, 5, 7, 8] [2, 58] [1, 2, 5, 7, 8] [2, 58] [7] [2, 58] [iA day, .ptr 2 0 0, .rsl 3 es false, .sl 58 1 1 0 m, iA (Int.ofNat i)] [lbX ps fs cs ts d u, (false, .arr 1 rs false)] [.as 36 false] [.t i ps.length] (.exit 2) [.sl 58 1 1 0 m] [lbX ps fs cs ts d u, (false, .arr 1 rs false)] := kn (by kernel_rfl)
theorem t64 (day : Int) (es rs : List AV) : L D13 64 [lbE ps fs cs ts d u, iA day] [.loop 0 [1, 2, 5, 6] [2] [1, 2, 5] [2] (.exit 0) [iA day, .ptr 2 0 0, .rsl 3 es false] [lbX ps fs cs ts d u], .loop 0 [1, 2, 5, 7, 8] [2] [7] [2] (.exit 2) [.rsl 1 rs false] [lbX ps fs cs ts d u]] [.l 60 64 0 60 [iA day, .ptr 2 0 0, .v (.slice none 0 0), iA 0] [lbX ps fs cs ts d u], .l 60 64 2 60 [iA day, .ptr 2 0 0, .rsl 3 es false, .v (.slice none 0 0), iA 0] [lbX ps fs cs ts d u]] (.rsl 1 rs false) := kr (by kernel_rfl)
def befG (day : Int) (_ : Nat) (t : Ts) : List Ts := bif decide (t.2.1 ≤ day) then [t] else []
theorem befG_le (day : Int) : ∀ i t, (befG day i t).length ≤ 1 := fun i t => by unfold befG; cases decide (t.2.1 ≤ day) <;> simp
theorem befG_no {day : Int} {i : Nat} {t : Ts} (h : befG day i t = []) : decide (t.2.1 ≤ day) = false := by
 unfold befG at h
 cases hq : decide (t.2.1 ≤ day) with
 | false => rfl
 | true => rw [hq] at h; cases h
theorem befG_yes {day : Int} {i : Nat} {t y : Ts} (h : befG day i t = [y]) : decide (y.2.1 ≤ day) = true ∧ t = y := by
 unfold befG at h
 cases hq : decide (t.2.1 ≤ day) with
 | false => rw [hq] at h; cases h
 | true => rw [hq] at h; simp only [cond_true, List.cons.injEq, and_true] at h; subst h; exact ⟨hq, rfl⟩
def befM (day : Int) (l : List Ts) : List Ts := l.filter fun t => decide (t.2.1 ≤ day)
theorem bef_gath (day : Int) (l : List Ts) : gath (befG day) 0 l = befM day l := (gath_filter (fun t : Ts => decide (t.2.1 ≤ day)) id l 0).trans (List.map_id _)
def dueG (x : Lb) (day : Int) (l : List Ts) (_ : Nat) (p : Pt) : List ByteArray := bif !nilB (stM x p.1 day l) then [p.1] else []
theorem dueG_le (x : Lb) (day : Int) (l : List Ts) : ∀ i t, (dueG x day l i t).length ≤ 1 := fun i t => by unfold dueG; cases nilB (stM x t.1 day l) <;> simp
theorem dueG_no {x : Lb} {day : Int} {l : List Ts} {i : Nat} {t : Pt} (h : dueG x day l i t = []) : (!nilB (stM x t.1 day l)) = false := by
 unfold dueG at h
 cases hq : !nilB (stM x t.1 day l) with
 | false => rfl
 | true => rw [hq] at h; cases h
theorem dueG_yes {x : Lb} {day : Int} {l : List Ts} {i : Nat} {t : Pt} {y : ByteArray} (h : dueG x day l i t = [y]) : (!nilB (stM x t.1 day l)) = true ∧ t.1 = y := by
 unfold dueG at h
 cases hq : !nilB (stM x t.1 day l) with
 | false => rw [hq] at h; cases h
 | true => rw [hq] at h; simp only [cond_true, List.cons.injEq, and_true] at h; exact ⟨rfl, h⟩
def dueM (x : Lb) (day : Int) (l : List Ts) : List ByteArray := gath (dueG x day l) 0 x.1
theorem okBef {x : Lb} (day : Int) (hok : okLb x = true) : (Nat.ble (befM day x.2.2.2.1).length lim && (befM day x.2.2.2.1).all okT) = true := by
 have K := okLb_at hok
 rw [Bool.and_eq_true, List.all_eq_true]
 exact ⟨Nat.ble_eq_true_of_le (Nat.le_trans (List.length_filter_le _ _) K.ts), fun t ht => K.ws t (List.mem_filter.1 ht).1⟩
theorem run64a (x : Lb) (hok : okLb x = true) (day : Int) : LoopRun (CS D13) 0 60 false (lO (CS D13) 64 0) (mkSt [1, 2, 5, 6] [2] 60 [iA day, .ptr 2 0 0, nilS, iA 0] [lbY x]) (.exit 0) (mkSt [1, 2, 5] [2] 60 [iA day, .ptr 2 0 0, slA tsC 3 (befM day x.2.2.2.1)] [lbY x]) := by
 have hlim := (okLb_at hok).ts
 have hl := limTwo hlim
 rw [← bef_gath]
 exact LoopRun.pushes (C := CS D13) (p := 0) (nt := 60) (rd := false) (c := lO (CS D13) 64 0) tsC.enc (befG day) (befG_le day) (key := 31) (sz := 3) (ts := [1, 2, 5, 6]) (ks := [2]) (fun i a => [iA day, .ptr 2 0 0, a, iA (Int.ofNat i)]) (fun _ => [lbY x])
   (nf := 60) (ts2 := [1, 2, 5]) (fun a => [iA day, .ptr 2 0 0, a]) (ex := .exit 0) x.2.2.2.1 (by simp) (by decide) (by decide) (fun _ => rfl) (fun _ => rfl)
   (fun es n hn => .cons (FzS.cl rfl) (.cons (FzS.ptr (by decide)) (.cons (FzS.sl hn) .nil))) (fun es n hn => .cons (.box (.cons (FzS.cl rfl) (.cons (FzS.cl rfl) (.cons (FzS.cl rfl) (.cons (FzS.cl rfl) (.cons (FzS.cl rfl) (.cons (FzS.cl rfl) .nil))))))) .nil) (.cons .rfl (.cons .rfl (.cons Weak.nilSl .nil))) (.cons .rfl .nil)
   (fun i t ht hg => by
    have hi := lt_len ht
    have hlt : decide (Int.ofNat i < Int.ofNat (x.2.2.2.1.map tsC.enc).length) = true := by rw [e_ts]; exact lt_of hi
    have h1 := befG_no hg
    have hr := (lx x r64na) day i t.1 t.2.1 (t.2.2.map strC.enc)
    rw [wrap_ix hi hl] at hr
    exact D13_ok.rndN hr ⟨hlt, get_map _ ht, h1, trivial, rfl⟩)
   (fun i t rs ht hg hc => by
    have hi := lt_len ht
    have hlt : decide (Int.ofNat i < Int.ofNat (x.2.2.2.1.map tsC.enc).length) = true := by rw [e_ts]; exact lt_of hi
    have h1 := befG_no hg
    have hr := (lx x r64nb) day rs rs.length i t.1 t.2.1 (t.2.2.map strC.enc)
    rw [wrap_ix hi hl] at hr
    exact D13_ok.rndN hr ⟨hlt, get_map _ ht, h1, ⟨hc, trivial⟩, rfl⟩)
   (fun i t y ht hg => by
    have hi := lt_len ht
    have hlt : decide (Int.ofNat i < Int.ofNat (x.2.2.2.1.map tsC.enc).length) = true := by rw [e_ts]; exact lt_of hi
    obtain ⟨h1, rfl⟩ := befG_yes hg
    have hr := (lx x r64ya) day i t.1 t.2.1 (t.2.2.map strC.enc)
    rw [wrap_ix hi hl] at hr
    exact D13_ok.rndN hr ⟨hlt, get_map _ ht, h1, get_map _ ht, ⟨closedTs [t], trivial⟩, rfl⟩)
   (fun i t y rs ht hg hc hrs => by
    have hi := lt_len ht
    have hlt : decide (Int.ofNat i < Int.ofNat (x.2.2.2.1.map tsC.enc).length) = true := by rw [e_ts]; exact lt_of hi
    obtain ⟨h1, rfl⟩ := befG_yes hg
    have hlen : (rs ++ [tsC.enc t]).length ≤ 1000001 := by rw [List.length_append]; unfold lim at hlim; simp; omega
    have hr := (lx x r64yb) day rs rs.length i t.1 t.2.1 (t.2.2.map strC.enc)
    rw [wrap_ix hi hl] at hr
    exact D13_ok.rndN hr ⟨hlt, get_map _ ht, h1, get_map _ ht, ⟨rfl, rfl, rfl, by show (rs ++ [tsC.enc t]).length * 48 ≤ _; omega, by show (rs ++ [tsC.enc t]).length ≤ _; omega, by decide⟩, ⟨hc.append (closedTs [t]), trivial⟩, rfl⟩)
   (D13_ok.rndX ((lx x r64xa) day x.2.2.2.1.length) ⟨by rw [e_ts]; exact lt_self _, trivial, rfl⟩)
   (fun rs hc => D13_ok.rndX ((lx x r64xb) day rs rs.length x.2.2.2.1.length) ⟨by rw [e_ts]; exact lt_self _, ⟨hc, trivial⟩, rfl⟩)
theorem okPts_le {l : List Pt} (h : okPts l = true) : l.length ≤ lim := by
 unfold okPts at h
 rw [Bool.and_eq_true] at h
 exact Nat.le_of_ble_eq_true h.1
theorem run64b (x : Lb) (hok : okLb x = true) (hz : labM x = 0) (day : Int) (l : List Ts) (hll : (Nat.ble l.length lim && l.all okT) = true) : LoopRun (CS D13) 0 60 false (lO (CS D13) 64 2) (mkSt [1, 2, 5, 7, 8] [2] 60 [iA day, .ptr 2 0 0, slA tsC 3 l, nilS, iA 0] [lbY x]) (.exit 2) (mkSt [7] [2] 60 [slA strC 1 (dueM x day l)] [lbY x]) := by
 have hlim := okPts_le (okLb_at hok).ps
 have hl := limTwo hlim
 exact LoopRun.pushes (C := CS D13) (p := 0) (nt := 60) (rd := false) (c := lO (CS D13) 64 2) strC.enc (dueG x day l) (dueG_le x day l) (key := 58) (sz := 1) (ts := [1, 2, 5, 7, 8]) (ks := [2]) (fun i a => [iA day, .ptr 2 0 0, .rsl 3 (l.map tsC.enc) false, a, iA (Int.ofNat i)]) (fun _ => [lbY x])
   (nf := 60) (ts2 := [7]) (fun a => [a]) (ex := .exit 2) x.1 (by simp) (by decide) (by decide) (fun _ => rfl) (fun _ => rfl)
   (fun es n hn => .cons (FzS.sl hn) .nil) (fun es n hn => .cons (.box (.cons (FzS.cl rfl) (.cons (FzS.cl rfl) (.cons (FzS.cl rfl) (.cons (FzS.cl rfl) (.cons (FzS.cl rfl) (.cons (FzS.cl rfl) .nil))))))) .nil) (.cons Weak.nilSl .nil) (.cons .rfl .nil)
   (fun i t ht hg => by
    have hi := lt_len ht
    have hlt : decide (Int.ofNat i < Int.ofNat (x.1.map ptC.enc).length) = true := by rw [e_pt]; exact lt_of hi
    have h1 := dueG_no hg
    have hr := s64na (x.1.map ptC.enc) (x.2.1.map ftC.enc) (x.2.2.1.map cbC.enc) (x.2.2.2.1.map tsC.enc) x.2.2.2.2.1 x.2.2.2.2.2 day (l.map tsC.enc) i t.1 t.2.1 t.2.2.1 t.2.2.2.1 t.2.2.2.2.1 t.2.2.2.2.2.1 (t.co.map ivC.enc) (stM x t.1 day l)
    rw [wrap_ix hi hl] at hr
    exact D13_ok.rndN hr ⟨hlt, get_map _ ht, ⟨rfl, spSt (l := l) t.1 day hok hz hll⟩, h1, trivial, rfl⟩)
   (fun i t rs ht hg hc => by
    have hi := lt_len ht
    have hlt : decide (Int.ofNat i < Int.ofNat (x.1.map ptC.enc).length) = true := by rw [e_pt]; exact lt_of hi
    have h1 := dueG_no hg
    have hr := s64nb (x.1.map ptC.enc) (x.2.1.map ftC.enc) (x.2.2.1.map cbC.enc) (x.2.2.2.1.map tsC.enc) x.2.2.2.2.1 x.2.2.2.2.2 day (l.map tsC.enc) rs rs.length i t.1 t.2.1 t.2.2.1 t.2.2.2.1 t.2.2.2.2.1 t.2.2.2.2.2.1 (t.co.map ivC.enc) (stM x t.1 day l)
    rw [wrap_ix hi hl] at hr
    exact D13_ok.rndN hr ⟨hlt, get_map _ ht, ⟨rfl, spSt (l := l) t.1 day hok hz hll⟩, h1, ⟨hc, trivial⟩, rfl⟩)
   (fun i t y ht hg => by
    have hi := lt_len ht
    have hlt : decide (Int.ofNat i < Int.ofNat (x.1.map ptC.enc).length) = true := by rw [e_pt]; exact lt_of hi
    obtain ⟨h1, rfl⟩ := dueG_yes hg
    have hr := s64ya (x.1.map ptC.enc) (x.2.1.map ftC.enc) (x.2.2.1.map cbC.enc) (x.2.2.2.1.map tsC.enc) x.2.2.2.2.1 x.2.2.2.2.2 day (l.map tsC.enc) i t.1 t.2.1 t.2.2.1 t.2.2.2.1 t.2.2.2.2.1 t.2.2.2.2.2.1 (t.co.map ivC.enc) (stM x t.1 day l)
    rw [wrap_ix hi hl] at hr
    exact D13_ok.rndN hr ⟨hlt, get_map _ ht, ⟨rfl, spSt (l := l) t.1 day hok hz hll⟩, h1, get_map _ ht, ⟨closedStr [t.1], trivial⟩, rfl⟩)
   (fun i t y rs ht hg hc hrs => by
    have hi := lt_len ht
    have hlt : decide (Int.ofNat i < Int.ofNat (x.1.map ptC.enc).length) = true := by rw [e_pt]; exact lt_of hi
    obtain ⟨h1, rfl⟩ := dueG_yes hg
    have hlen : (rs ++ [strC.enc t.1]).length ≤ 1000001 := by rw [List.length_append]; unfold lim at hlim; simp; omega
    have hr := s64yb (x.1.map ptC.enc) (x.2.1.map ftC.enc) (x.2.2.1.map cbC.enc) (x.2.2.2.1.map tsC.enc) x.2.2.2.2.1 x.2.2.2.2.2 day (l.map tsC.enc) rs rs.length i t.1 t.2.1 t.2.2.1 t.2.2.2.1 t.2.2.2.2.1 t.2.2.2.2.2.1 (t.co.map ivC.enc) (stM x t.1 day l)
    rw [wrap_ix hi hl] at hr
    exact D13_ok.rndN hr ⟨hlt, get_map _ ht, ⟨rfl, spSt (l := l) t.1 day hok hz hll⟩, h1, get_map _ ht, ⟨rfl, rfl, rfl, by show (rs ++ [strC.enc t.1]).length * 16 ≤ _; omega, by show (rs ++ [strC.enc t.1]).length ≤ _; omega, by decide⟩, ⟨hc.append (closedStr [t.1]), trivial⟩, rfl⟩)
   (D13_ok.rndX (s64xa (x.1.map ptC.enc) (x.2.1.map ftC.enc) (x.2.2.1.map cbC.enc) (x.2.2.2.1.map tsC.enc) x.2.2.2.2.1 x.2.2.2.2.2 day (l.map tsC.enc) x.1.length) ⟨by rw [e_pt]; exact lt_self _, trivial, rfl⟩)
   (fun rs hc => D13_ok.rndX (s64xb (x.1.map ptC.enc) (x.2.1.map ftC.enc) (x.2.2.1.map cbC.enc) (x.2.2.2.1.map tsC.enc) x.2.2.2.2.1 x.2.2.2.2.2 day (l.map tsC.enc) rs rs.length x.1.length) ⟨by rw [e_pt]; exact lt_self _, ⟨hc, trivial⟩, rfl⟩)
def due64G : List AV → Option AV := sp2 labC intC fun x day => bif okLb x && decide (labM x = 0) then some (slA strC 1 (dueM x day (befM day x.2.2.2.1))) else none
theorem h64 : Holds 64 due64G := holds2 fun x day r hr => by
 cases hb : okLb x && decide (labM x = 0) with
 | false => simp [hb] at hr
 | true =>
  simp only [hb, cond_true, Option.some.injEq] at hr; subst hr
  simp only [Bool.and_eq_true, decide_eq_true_eq] at hb
  obtain ⟨hok, hz⟩ := hb
  exact D13_ok.tr ((lx x t64) day _ _) ⟨⟨trivial, trivial, (run64a x hok day).says⟩, ⟨trivial, trivial, (run64b x hok hz day _ (okBef day hok)).says⟩, rfl⟩
noncomputable def D14 : Specs := (D13.set 64 due64G)
theorem D14_ok : Ok D14 := (D13_ok.set h64)
end Go.Vm.S3

namespace Go.Vm.S3
open Go.Proofs Go.RowKit
set_option maxRecDepth 100000
set_option maxRecDepth 20000
theorem d143n (day : Int) (es : List AV) (m i : Nat) (ta : ByteArray) (tn : Int) (ws : List AV) : Lr D14 143 19 0 [0, 1, 7, 8] [] [0, 1, 7, 8] [] [4] [] [.rsl 3 es false, .fn (.func 144) [] [.rptr [iA day]], iA (Int.ofNat m), iA (Int.ofNat i)] [] [.as 9 true, .chk [.agg [sA ta, iA tn, .rsl 1 ws false]], .as 16 false] [.t i m, .g es i, .b (decide (tn > day))] .nrm [.rsl 3 es false, .fn (Fn.func 144) [] [.rptr [iA day]], iA (Int.ofNat m), iA (IntKind.i64.wrap (Int.ofNat i + 1))] [] := kn (by kernel_rfl)
theorem d143y (day : Int) (es : List AV) (m i : Nat) (ta : ByteArray) (tn : Int) (ws : List AV) : Lr D14 143 19 0 [0, 1, 7, 8] [] [0, 1, 7, 8] [] [4] [] [.rsl 3 es false, .fn (.func 144) [] [.rptr [iA day]], iA (Int.ofNat m), iA (Int.ofNat i)] [] [.as 9 true, .chk [.agg [sA ta, iA tn, .rsl 1 ws false]], .as 16 true] [.t i m, .g es i, .b (decide (tn > day))] .ret [iA (Int.ofNat i)] [] := kn (by kernel_rfl)
theorem d143x (day : Int) (es : List AV) (m i : Nat) : Lr D14 143 19 0 [0, 1, 7, 8] [] [0, 1, 7, 8] [] [] [] [.rsl 3 es false, .fn (.func 144) [] [.rptr [iA day]], iA (Int.ofNat m), iA (Int.ofNat i)] [] [.as 9 false] [.t i m] (.exit 0) [] [] := kn (by kernel_rfl)
theorem e143r (day : Int) (es : List AV) (t : Int) : L D14 143 [.rsl 3 es false, .fn (.func 144) [] [.rptr [iA day]]] [.loop 0 [0, 1, 7, 8] [] [4] [] .ret [iA t] []] [.l 19 143 0 19 [.rsl 3 es false, .fn (Fn.func 144) [] [.rptr [iA day]], iA (Int.ofNat es.length), iA 0] []] (iA t) := kr (by kernel_rfl)
theorem e143e (day : Int) (es : List AV) : L D14 143 [.rsl 3 es false, .fn (.func 144) [] [.rptr [iA day]]] [.loop 0 [0, 1, 7, 8] [] [] [] (.exit 0) [] []] [.l 19 143 0 19 [.rsl 3 es false, .fn (Fn.func 144) [] [.rptr [iA day]], iA (Int.ofNat es.length), iA 0] []] (iA (-1)) := kr (by kernel_rfl)
def untF (day : Int) (i : Nat) (t : Ts) : Option Int := bif decide (t.2.1 > day) then some (Int.ofNat i) else none
def untM (day : Int) (l : List Ts) : Int := (srch (untF day) 0 l).getD (-1)
def une143G : List AV → Option AV := sp2 tssC (cloC 144 (rptrC intC)) fun l day => bif Nat.ble l.length lim then some (iA (untM day l)) else none
theorem h143b : Holds 143 une143G := holds2 fun l day r hr => by
 cases hb : Nat.ble l.length lim with
 | false => simp [hb] at hr
 | true =>
  simp only [hb, cond_true, Option.some.injEq] at hr; subst hr
  have hl := limTwo (Nat.le_of_ble_eq_true hb)
  have e := e_ts l
  have h := LoopRun.find (C := CS D14) (p := 0) (nt := 19) (rd := false) (c := lO (CS D14) 143 0) (untF day) (fun i => mkSt [0, 1, 7, 8] [] 19 [.rsl 3 (l.map tsC.enc) false, .fn (.func 144) [] [.rptr [iA day]], iA (Int.ofNat l.length), iA (Int.ofNat i)] [])
   (fun t => mkSt [4] [] 19 [iA t] []) (mkSt [] [] 19 [] []) (.exit 0) (fun _ => .ret) l (by simp) (by simp)
   (fun i t ht => by
    have hi := lt_len ht
    unfold untF
    cases h : decide (t.2.1 > day) with
    | true => exact D14_ok.rndR (d143y day (l.map tsC.enc) l.length i t.1 t.2.1 (t.2.2.map strC.enc)) ⟨lt_of hi, get_map tsC.enc ht, h, trivial, rfl⟩
    | false =>
     have hr := d143n day (l.map tsC.enc) l.length i t.1 t.2.1 (t.2.2.map strC.enc)
     rw [wrap_ix hi hl] at hr
     exact D14_ok.rndN hr ⟨lt_of hi, get_map tsC.enc ht, h, trivial, rfl⟩)
   (D14_ok.rndX (d143x day (l.map tsC.enc) l.length l.length) ⟨lt_self _, trivial, rfl⟩)
  rw [← e] at h
  unfold untM
  cases hq : srch (untF day) 0 l with
  | some t => rw [hq] at h; exact D14_ok.tr (e143r day (l.map tsC.enc) t) ⟨⟨trivial, trivial, h.says⟩, rfl⟩
  | none => rw [hq] at h; exact D14_ok.tr (e143e day (l.map tsC.enc)) ⟨⟨trivial, trivial, h.says⟩, rfl⟩
theorem sp143 {l : List Ts} (day : Int) (hl : Nat.ble l.length lim = true) : orG ix196G une143G [slA tsC 3 l, .fn (.func 144) [] [.rptr [iA day]]] = some (iA (untM day l)) := or_r (clc_ne rfl) (by
 have := sp2_at (A := tssC) (B := cloC 144 (rptrC intC)) (F := fun l day => bif Nat.ble l.length lim then some (iA (untM day l)) else none) l day
 rw [hl] at this; exact this)
noncomputable def D15 : Specs := (D14.set 143 (orG ix196G une143G))
theorem D15_ok : Ok D15 := (D14_ok.set (holds_or h143 h143b))
end Go.Vm.S3

namespace Go.Vm.S3
open Go.Proofs Go.RowKit
set_option maxRecDepth 100000
variable (ps fs cs ts : List AV) (d u : Int)
set_option maxRecDepth 20000
theorem r61na (day : Int) (k : Nat) (i : Nat) (pa pb : ByteArray) (pm px py pz : Int) (co : List AV) (es1 : List AV) (z : ByteArray) (w a b c : ByteArray) (n : Int) (us : List AV) (kz mz : Int) : Lr D15 61 54 0 [2, 3, 7, 8, 30, 31, 32] [2, 3] [2, 3, 7, 8, 30, 31, 32] [2, 3] [8] [2, 3] [.ptr 2 0 0, .ptr 3 1 0, iA (Int.ofNat k), nilS, .rsl 7 ps false, iA (Int.ofNat ps.length), iA (Int.ofNat i)] [lbX ps fs cs ts d u, (false, .box [iA day])] [.as 33 true, .chk [.agg [sA pa, sA pb, iA pm, iA px, iA py, iA pz, .rsl 2 co false]], .chk [], .sp [lbE ps fs cs ts d u, sA pa, iA day, .rsl 3 es1 false] (siE ps fs cs ts d u day w a b c n us kz mz), .sp [siE ps fs cs ts d u day w a b c n us kz mz] (sA z), .as 46 false] [.t i ps.length, .g ps i, .k (0 ≤ k ∧ k ≤ ts.length), .q 145 [lbE ps fs cs ts d u, sA pa, iA day, .rsl 3 (List.take (k - 0) (List.drop 0 ts)) false], .f 146, .b (!(z.toList == (ByteArray.mk #[]).toList))] .nrm [.ptr 2 0 0, .ptr 3 1 0, iA (Int.ofNat k), .v (.slice none 0 0), .rsl 7 ps false, iA (Int.ofNat ps.length), iA (IntKind.i64.wrap (Int.ofNat i + 1))] [lbX ps fs cs ts d u, (false, .box [iA day])] := kn (by kernel_rfl)
theorem r61ya (day : Int) (k : Nat) (i : Nat) (pa pb : ByteArray) (pm px py pz : Int) (co : List AV) (es1 : List AV) (z : ByteArray) (w a b c : ByteArray) (n : Int) (us : List AV) (kz mz : Int) : Lr D15 61 54 0 [2, 3, 7, 8, 30, 31, 32] [2, 3] [2, 3, 7, 8, 30, 31, 32] [2, 3, 51] [8] [2, 3] [.ptr 2 0 0, .ptr 3 1 0, iA (Int.ofNat k), nilS, .rsl 7 ps false, iA (Int.ofNat ps.length), iA (Int.ofNat i)] [lbX ps fs cs ts d u, (false, .box [iA day])] [.as 33 true, .chk [.agg [sA pa, sA pb, iA pm, iA px, iA py, iA pz, .rsl 2 co false]], .chk [], .sp [lbE ps fs cs ts d u, sA pa, iA day, .rsl 3 es1 false] (siE ps fs cs ts d u day w a b c n us kz mz), .sp [siE ps fs cs ts d u day w a b c n us kz mz] (sA z), .as 46 true] [.t i ps.length, .g ps i, .k (0 ≤ k ∧ k ≤ ts.length), .q 145 [lbE ps fs cs ts d u, sA pa, iA day, .rsl 3 (List.take (k - 0) (List.drop 0 ts)) false], .f 146, .b (!(z.toList == (ByteArray.mk #[]).toList))] .nrm [.ptr 2 0 0, .ptr 3 1 0, iA (Int.ofNat k), .sl 51 2 1 0 1, .rsl 7 ps false, iA (Int.ofNat ps.length), iA (IntKind.i64.wrap (Int.ofNat i + 1))] [lbX ps fs cs ts d u, (false, .box [iA day]), (false, .arr 1 [sA pa] false)] := kn (by kernel_rfl)
theorem r61xa (day : Int) (k : Nat) (i : Nat) : Lr D15 61 54 0 [2, 3, 7, 8, 30, 31, 32] [2, 3] [2, 3, 7, 8, 30, 31, 32] [2, 3] [8] [2, 3] [.ptr 2 0 0, .ptr 3 1 0, iA (Int.ofNat k), nilS, .rsl 7 ps false, iA (Int.ofNat ps.length), iA (Int.ofNat i)] [lbX ps fs cs ts d u, (false, .box [iA day])] [.as 33 false] [.t i ps.length] (.exit 0) [.v (.slice none 0 0)] [lbX ps fs cs ts d u, (false, .box [iA day])] := kn (by kernel_rfl)
abbrev cD16_7 (ps fs cs ts : List AV) (d u day : Int) (k : Nat) (rs : List AV) (m i : Nat) (pa pb : ByteArray) (pm px py pz : Int) (co es1 : List AV) (z w a b c : ByteArray) (n : Int) (us : List AV) (kz mz : Int) (h9 : List Hn) (a9 : List An) (x9 : Ex) (v9 : List AV) (e9 : List (Bool × Blk)) : Prop := Lr D15 61 54 0 [2, 3, 7, 8, 30, 31, 32] [2, 3, 51] [2, 3, 7, 8, 30, 31, 32] [2, 3, 51] [8] [2, 3, 51] [.ptr 2 0 0, .ptr 3 1 0, iA (Int.ofNat k), .sl 51 2 1 0 m, .rsl 7 ps false, iA (Int.ofNat ps.length), iA (Int.ofNat i)] [lbX ps fs cs ts d u, (false, .box [iA day]), (false, .arr 1 rs false)] ([.as 33 true, .chk [.agg [sA pa, sA pb, iA pm, iA px, iA py, iA pz, .rsl 2 co false]], .chk [], .sp [lbE ps fs cs ts d u, sA pa, iA day, .rsl 3 es1 false] (siE ps fs cs ts d u day w a b c n us kz mz), .sp [siE ps fs cs ts d u day w a b c n us kz mz] (sA z)] ++ h9) ([.t i ps.length, .g ps i, .k (0 ≤ k ∧ k ≤ ts.length), .q 145 [lbE ps fs cs ts d u, sA pa, iA day, .rsl 3 (List.take (k - 0) (List.drop 0 ts)) false], .f 146] ++ a9) x9 v9 e9
theorem r61nb (day : Int) (k : Nat) (rs : List AV) (m : Nat) (i : Nat) (pa pb : ByteArray) (pm px py pz : Int) (co : List AV) (es1 : List AV) (z : ByteArray) (w a b c : ByteArray) (n : Int) (us : List AV) (kz mz : Int) : cD16_7 ps fs cs ts d u day k rs m i pa pb pm px py pz co es1 z w a b c n us kz mz [.as 46 false] [.b (!(z.toList == (ByteArray.mk #[]).toList))] .nrm [.ptr 2 0 0, .ptr 3 1 0, iA (Int.ofNat k), .sl 51 2 1 0 m, .rsl 7 ps false, iA (Int.ofNat ps.length), iA (IntKind.i64.wrap (Int.ofNat i + 1))] [lbX ps fs cs ts d u, (false, .box [iA day]), (false, .arr 1 rs false)] := kn (by kernel_rfl)
theorem r61yb (day : Int) (k : Nat) (rs : List AV) (m : Nat) (i : Nat) (pa pb : ByteArray) (pm px py pz : Int) (co : List AV) (es1 : List AV) (z : ByteArray) (w a b c : ByteArray) (n : Int) (us : List AV) (kz mz : Int) : cD16_7 ps fs cs ts d u day k rs m i pa pb pm px py pz co es1 z w a b c n us kz mz [.as 46 true, .chk rs] [.b (!(z.toList == (ByteArray.mk #[]).toList)), .k (apn m rs 1 [sA pa] 16)] .nrm [.ptr 2 0 0, .ptr 3 1 0, iA (Int.ofNat k), .sl 51 2 1 0 ((rs ++ ([sA pa] : List AV)).length), .rsl 7 ps false, iA (Int.ofNat ps.length), iA (IntKind.i64.wrap (Int.ofNat i + 1))] [lbX ps fs cs ts d u, (false, .box [iA day]), (false, .arr 1 (rs ++ ([sA pa] : List AV)) false)] := kn (by kernel_rfl)
theorem r61xb (day : Int) (k : Nat) (rs : List AV) (m : Nat) (i : Nat) : Lr D15 61 54 0 [2, 3, 7, 8, 30, 31, 32] [2, 3, 51] [2, 3, 7, 8, 30, 31, 32] [2, 3, 51] [8] [2, 3, 51] [.ptr 2 0 0, .ptr 3 1 0, iA (Int.ofNat k), .sl 51 2 1 0 m, .rsl 7 ps false, iA (Int.ofNat ps.length), iA (Int.ofNat i)] [lbX ps fs cs ts d u, (false, .box [iA day]), (false, .arr 1 rs false)] [.as 33 false] [.t i ps.length] (.exit 0) [.sl 51 2 1 0 m] [lbX ps fs cs ts d u, (false, .box [iA day]), (false, .arr 1 rs false)] := kn (by kernel_rfl)
theorem t61a (day : Int) (e1 e2 e : Int) : L D15 61 [lbE ps fs cs ts d u, iA day] [.sp [lbE ps fs cs ts d u] (iA e1), .sp [iA day] (iA e2), .sp [.rsl 1 [iA e1, iA e2] true] (iA e), .as 18 true] [.f 49, .f 112, .f 108, .b (e != 0)] (.tup [.v (.slice none 0 0), iA e]) := kr (by kernel_rfl)
theorem t61b (day : Int) (e1 e2 e : Int) (k : Int) (rs : List AV) : L D15 61 [lbE ps fs cs ts d u, iA day] [.sp [lbE ps fs cs ts d u] (iA e1), .sp [iA day] (iA e2), .sp [.rsl 1 [iA e1, iA e2] true] (iA e), .as 18 false, .sp [.rsl 3 ts false, .fn (.func 144) [] [.rptr [iA day]]] (iA k), .as 25 true, .loop 0 [2, 3, 7, 8, 30, 31, 32] [2, 3] [8] [2, 3] (.exit 0) [.rsl 1 rs false] [lbX ps fs cs ts d u, (false, .box [iA day])]] [.f 49, .f 112, .f 108, .b (e != 0), .f 143, .b (decide (k < 0)), .l 54 61 0 54 [.ptr 2 0 0, .ptr 3 1 0, iA (Int.ofNat ts.length), .v (.slice none 0 0), .rsl 7 ps false, iA (Int.ofNat ps.length), iA 0] [lbX ps fs cs ts d u, (false, .box [iA day])]] (.tup [.rsl 1 rs false, iA 0]) := kr (by kernel_rfl)
theorem t61c (day : Int) (e1 e2 e : Int) (k : Nat) (rs : List AV) : L D15 61 [lbE ps fs cs ts d u, iA day] [.sp [lbE ps fs cs ts d u] (iA e1), .sp [iA day] (iA e2), .sp [.rsl 1 [iA e1, iA e2] true] (iA e), .as 18 false, .sp [.rsl 3 ts false, .fn (.func 144) [] [.rptr [iA day]]] (iA (Int.ofNat k)), .as 25 false, .loop 0 [2, 3, 7, 8, 30, 31, 32] [2, 3] [8] [2, 3] (.exit 0) [.rsl 1 rs false] [lbX ps fs cs ts d u, (false, .box [iA day])]] [.f 49, .f 112, .f 108, .b (e != 0), .f 143, .b (decide (Int.ofNat k < 0)), .l 54 61 0 54 [.ptr 2 0 0, .ptr 3 1 0, iA (Int.ofNat k), .v (.slice none 0 0), .rsl 7 ps false, iA (Int.ofNat ps.length), iA 0] [lbX ps fs cs ts d u, (false, .box [iA day])]] (.tup [.rsl 1 rs false, iA 0]) := kr (by kernel_rfl)
theorem run61 (x : Lb) (hok : okLb x = true) (hz : labM x = 0) (day : Int) (k : Nat) (hk : k ≤ x.2.2.2.1.length) : LoopRun (CS D15) 0 54 false (lO (CS D15) 61 0) (mkSt [2, 3, 7, 8, 30, 31, 32] [2, 3] 54 [.ptr 2 0 0, .ptr 3 1 0, iA (Int.ofNat k), nilS, .rsl 7 (x.1.map ptC.enc) false, iA (Int.ofNat (x.1.map ptC.enc).length), iA 0] [lbY x, (false, .box [iA day])]) (.exit 0) (mkSt [8] [2, 3] 54 [slA strC 1 (dueM x day (x.2.2.2.1.take k))] [lbY x, (false, .box [iA day])]) := by
 have hlim := okPts_le (okLb_at hok).ps
 have hl := limTwo hlim
 have q1 : (0 ≤ k ∧ k ≤ (x.2.2.2.1.map tsC.enc).length) := ⟨Nat.zero_le _, by rw [List.length_map]; exact hk⟩
 have q2 : ∀ p : ByteArray, ([lbA x, sA p, iA day, .rsl 3 (List.take (k - 0) (List.drop 0 (x.2.2.2.1.map tsC.enc))) false] : List AV) = [lbA x, sA p, iA day, slA tsC 3 (x.2.2.2.1.take k)] := fun p => by rw [take_map]; rfl
 exact LoopRun.pushes (C := CS D15) (p := 0) (nt := 54) (rd := false) (c := lO (CS D15) 61 0) strC.enc (dueG x day (x.2.2.2.1.take k)) (dueG_le x day _) (key := 51) (sz := 1) (ts := [2, 3, 7, 8, 30, 31, 32]) (ks := [2, 3]) (fun i a => [.ptr 2 0 0, .ptr 3 1 0, iA (Int.ofNat k), a, .rsl 7 (x.1.map ptC.enc) false, iA (Int.ofNat (x.1.map ptC.enc).length), iA (Int.ofNat i)]) (fun _ => [lbY x, (false, .box [iA day])])
   (nf := 54) (ts2 := [8]) (fun a => [a]) (ex := .exit 0) x.1 (by simp) (by decide) (by decide) (fun _ => rfl) (fun _ => rfl)
   (fun es n hn => .cons (FzS.sl hn) .nil) (fun es n hn => .cons (.box (.cons (FzS.cl rfl) (.cons (FzS.cl rfl) (.cons (FzS.cl rfl) (.cons (FzS.cl rfl) (.cons (FzS.cl rfl) (.cons (FzS.cl rfl) .nil))))))) (.cons (.box (.cons (FzS.cl rfl) .nil)) .nil)) (.cons Weak.nilSl .nil) (.cons .rfl (.cons .rfl .nil))
   (fun i t ht hg => by
    have hi := lt_len ht
    have hlt : decide (Int.ofNat i < Int.ofNat (x.1.map ptC.enc).length) = true := by rw [e_pt]; exact lt_of hi
    have h1 := dueG_no hg
    have hr := (lx x r61na) day k i t.1 t.2.1 t.2.2.1 t.2.2.2.1 t.2.2.2.2.1 t.2.2.2.2.2.1 (t.co.map ivC.enc) ((x.2.2.2.1.take k).map tsC.enc) (stM x t.1 day (x.2.2.2.1.take k)) (specM x.2.1 t.1 day) (rsM x t.1 day).1 (rsM x t.1 day).2.1 (rsM x t.1 day).2.2.1 (rsM x t.1 day).2.2.2.1 ((rsM x t.1 day).2.2.2.2.1.map intC.enc) (rsM x t.1 day).2.2.2.2.2 (cntU x.2.1 (specM x.2.1 t.1 day) (rsM x t.1 day).2.2.2.1 (x.2.2.2.1.take k))
    rw [wrap_ix hi hl] at hr
    exact D15_ok.rndN hr ⟨hlt, get_map _ ht, q1, ⟨q2 t.1, by have := spSit t.1 day hok (okTake hok k); first | exact this | (rw [← q2 t.1] at this; exact this)⟩, ⟨rfl, spWr t.1 day _ hok hz⟩, h1, trivial, rfl⟩)
   (fun i t rs ht hg hc => by
    have hi := lt_len ht
    have hlt : decide (Int.ofNat i < Int.ofNat (x.1.map ptC.enc).length) = true := by rw [e_pt]; exact lt_of hi
    have h1 := dueG_no hg
    have hr := (lx x r61nb) day k rs rs.length i t.1 t.2.1 t.2.2.1 t.2.2.2.1 t.2.2.2.2.1 t.2.2.2.2.2.1 (t.co.map ivC.enc) ((x.2.2.2.1.take k).map tsC.enc) (stM x t.1 day (x.2.2.2.1.take k)) (specM x.2.1 t.1 day) (rsM x t.1 day).1 (rsM x t.1 day).2.1 (rsM x t.1 day).2.2.1 (rsM x t.1 day).2.2.2.1 ((rsM x t.1 day).2.2.2.2.1.map intC.enc) (rsM x t.1 day).2.2.2.2.2 (cntU x.2.1 (specM x.2.1 t.1 day) (rsM x t.1 day).2.2.2.1 (x.2.2.2.1.take k))
    rw [wrap_ix hi hl] at hr
    exact D15_ok.rndN hr ⟨hlt, get_map _ ht, q1, ⟨q2 t.1, by have := spSit t.1 day hok (okTake hok k); first | exact this | (rw [← q2 t.1] at this; exact this)⟩, ⟨rfl, spWr t.1 day _ hok hz⟩, h1, ⟨hc, trivial⟩, rfl⟩)
   (fun i t y ht hg => by
    have hi := lt_len ht
    have hlt : decide (Int.ofNat i < Int.ofNat (x.1.map ptC.enc).length) = true := by rw [e_pt]; exact lt_of hi
    obtain ⟨h1, rfl⟩ := dueG_yes hg
    have hr := (lx x r61ya) day k i t.1 t.2.1 t.2.2.1 t.2.2.2.1 t.2.2.2.2.1 t.2.2.2.2.2.1 (t.co.map ivC.enc) ((x.2.2.2.1.take k).map tsC.enc) (stM x t.1 day (x.2.2.2.1.take k)) (specM x.2.1 t.1 day) (rsM x t.1 day).1 (rsM x t.1 day).2.1 (rsM x t.1 day).2.2.1 (rsM x t.1 day).2.2.2.1 ((rsM x t.1 day).2.2.2.2.1.map intC.enc) (rsM x t.1 day).2.2.2.2.2 (cntU x.2.1 (specM x.2.1 t.1 day) (rsM x t.1 day).2.2.2.1 (x.2.2.2.1.take k))
    rw [wrap_ix hi hl] at hr
    exact D15_ok.rndN hr ⟨hlt, get_map _ ht, q1, ⟨q2 t.1, by have := spSit t.1 day hok (okTake hok k); first | exact this | (rw [← q2 t.1] at this; exact this)⟩, ⟨rfl, spWr t.1 day _ hok hz⟩, h1, ⟨closedStr [t.1], trivial⟩, rfl⟩)
   (fun i t y rs ht hg hc hrs => by
    have hi := lt_len ht
    have hlt : decide (Int.ofNat i < Int.ofNat (x.1.map ptC.enc).length) = true := by rw [e_pt]; exact lt_of hi
    obtain ⟨h1, rfl⟩ := dueG_yes hg
    have hlen : (rs ++ [strC.enc t.1]).length ≤ 1000001 := by rw [List.length_append]; unfold lim at hlim; simp; omega
    have hr := (lx x r61yb) day k rs rs.length i t.1 t.2.1 t.2.2.1 t.2.2.2.1 t.2.2.2.2.1 t.2.2.2.2.2.1 (t.co.map ivC.enc) ((x.2.2.2.1.take k).map tsC.enc) (stM x t.1 day (x.2.2.2.1.take k)) (specM x.2.1 t.1 day) (rsM x t.1 day).1 (rsM x t.1 day).2.1 (rsM x t.1 day).2.2.1 (rsM x t.1 day).2.2.2.1 ((rsM x t.1 day).2.2.2.2.1.map intC.enc) (rsM x t.1 day).2.2.2.2.2 (cntU x.2.1 (specM x.2.1 t.1 day) (rsM x t.1 day).2.2.2.1 (x.2.2.2.1.take k))
    rw [wrap_ix hi hl] at hr
    exact D15_ok.rndN hr ⟨hlt, get_map _ ht, q1, ⟨q2 t.1, by have := spSit t.1 day hok (okTake hok k); first | exact this | (rw [← q2 t.1] at this; exact this)⟩, ⟨rfl, spWr t.1 day _ hok hz⟩, h1, ⟨rfl, rfl, rfl, by show (rs ++ [strC.enc t.1]).length * 16 ≤ _; omega, by show (rs ++ [strC.enc t.1]).length ≤ _; omega, by decide⟩, ⟨hc.append (closedStr [t.1]), trivial⟩, rfl⟩)
   (D15_ok.rndX ((lx x r61xa) day k x.1.length) ⟨by rw [e_pt]; exact lt_self _, trivial, rfl⟩)
   (fun rs hc => D15_ok.rndX ((lx x r61xb) day k rs rs.length x.1.length) ⟨by rw [e_pt]; exact lt_self _, ⟨hc, trivial⟩, rfl⟩)
theorem bef_take {day : Int} : ∀ (l : List Ts) (i : Nat), (∀ k a b, l[k]? = some a → l[k + 1]? = some b → a.2.1 ≤ b.2.1) →
  (srch (untF day) i l = none ∧ befM day l = l) ∨ ∃ k, srch (untF day) i l = some (Int.ofNat (i + k)) ∧ k ≤ l.length ∧ befM day l = l.take k
 | [], i, _ => .inl ⟨rfl, rfl⟩
 | t :: l, i, h => by
  have hu : srch (untF day) i (t :: l) = bif decide (t.2.1 > day) then some (Int.ofNat i) else srch (untF day) (i + 1) l := by
   simp only [srch]
   have e : untF day i t = bif decide (t.2.1 > day) then some (Int.ofNat i) else none := rfl
   rw [e]; cases decide (t.2.1 > day) <;> rfl
  rw [hu]
  unfold befM
  cases hd : decide (t.2.1 > day) with
  | true =>
   refine .inr ⟨0, rfl, Nat.zero_le _, ?_⟩
   rw [List.take_zero, List.filter_eq_nil_iff]
   have hgt := of_decide_eq_true hd
   have all : ∀ (n : Nat) (u : Ts), (t :: l)[n]? = some u → day < u.2.1 := by
    intro n
    induction n with
    | zero => intro u hu; simp at hu; subst hu; exact hgt
    | succ n ih =>
     intro u hu
     have hlt : n < (t :: l).length := by have := lt_len hu; omega
     have hn := List.getElem?_eq_getElem hlt
     have h1 := ih _ hn
     have h2 := h n _ _ hn hu
     omega
   intro u hu
   obtain ⟨n, hn, rfl⟩ := List.mem_iff_getElem.1 hu
   have := all n _ (List.getElem?_eq_getElem hn)
   simp only [decide_eq_true_eq]
   omega
  | false =>
   have hle := of_decide_eq_false hd
   have hf : decide (t.2.1 ≤ day) = true := decide_eq_true (by omega)
   rw [List.filter_cons, hf]
   simp only [cond_false, if_true]
   have h' : ∀ k a b, l[k]? = some a → l[k + 1]? = some b → a.2.1 ≤ b.2.1 := fun k a b ha hb => h (k + 1) a b (by simpa using ha) (by simpa using hb)
   rcases bef_take (day := day) l (i + 1) h' with ⟨h1, h2⟩ | ⟨k, h1, h2, h3⟩
   ·refine .inl ⟨h1, ?_⟩
    unfold befM at h2; rw [h2]
   ·refine .inr ⟨k + 1, ?_, by rw [List.length_cons]; omega, ?_⟩
    ·rw [h1]; congr 2; omega
    ·unfold befM at h3; rw [h3]; rfl
theorem tests_sorted {x : Lb} (hz : labM x = 0) : ∀ k a b, x.2.2.2.1[k]? = some a → x.2.2.2.1[k + 1]? = some b → a.2.1 ≤ b.2.1 := fun k a b ha hb => by
 have G := labM_zero hz
 have h := G.ts _ _ hb
 unfold testM at h
 rw [firstM_app] at h
 cases he : firstM (tE (x.2.2.2.1.take (k + 1)) b) != 0 with
 | true => rw [he, cond_true] at h; rw [h] at he; cases he
 | false =>
  rw [he, cond_false, firstM_c0, firstM_c0] at h
  obtain ⟨_, h2, _⟩ := h
  rw [prevD_at (f := dayT) ha] at h2
  unfold whenM at h2
  cases hq : decide (b.2.1 < dayT a) with
  | true => rw [hq] at h2; cases h2
  | false => have hn := of_decide_eq_false hq; exact Int.not_lt.1 hn
def due61 (x : Lb) (day : Int) : List ByteArray := bif firstM [labM x, dayM day] != 0 then [] else dueM x day (befM day x.2.2.2.1)
def due61G : List AV → Option AV := sp2 labC intC fun x day => bif okLb x then some (.tup [slA strC 1 (due61 x day), iA (firstM [labM x, dayM day])]) else none
theorem h61 : Holds 61 due61G := holds2 fun x day r hr => by
 cases hb : okLb x with
 | false => simp [hb] at hr
 | true =>
  simp only [hb, cond_true, Option.some.injEq] at hr; subst hr
  have K := okLb_at hb
  have f49 := spLab hb
  have f112 := spDay day
  have f108 : firstG [.rsl 1 [iA (labM x), iA (dayM day)] true] = some (iA (firstM [labM x, dayM day])) := rfl
  unfold due61
  cases he : firstM [labM x, dayM day] != 0 with
  | true => exact Comp.weak (D15_ok.tr ((lx x t61a) day _ _ _) ⟨⟨rfl, f49⟩, ⟨rfl, f112⟩, ⟨rfl, f108⟩, he, rfl⟩) WeakL.rfl tup_nil
  | false =>
   have h0 : firstM [labM x, dayM day] = 0 := by simpa using he
   have hz : labM x = 0 := ((firstM_c0 _ _).1 h0).1
   have f143 := sp143 (l := x.2.2.2.1) day (Nat.ble_eq_true_of_le K.ts)
   unfold untM at f143
   rcases bef_take (day := day) x.2.2.2.1 0 (tests_sorted hz) with ⟨h1, h2⟩ | ⟨k, h1, h2, h3⟩
   ·rw [h1] at f143
    rw [h2]
    have h := run61 x hb hz day x.2.2.2.1.length (Nat.le_refl _)
    rw [List.take_length, ← e_ts x.2.2.2.1] at h
    have := D15_ok.tr ((lx x t61b) day (labM x) (dayM day) (firstM [labM x, dayM day]) (-1) _) ⟨⟨rfl, f49⟩, ⟨rfl, f112⟩, ⟨rfl, f108⟩, he, ⟨rfl, f143⟩, rfl, ⟨trivial, trivial, h.says⟩, rfl⟩
    rw [h0]; exact this
   ·rw [h1, Nat.zero_add] at f143
    rw [h3]
    have h := run61 x hb hz day k h2
    have := D15_ok.tr ((lx x t61c) day (labM x) (dayM day) (firstM [labM x, dayM day]) k _) ⟨⟨rfl, f49⟩, ⟨rfl, f112⟩, ⟨rfl, f108⟩, he, ⟨rfl, f143⟩, decide_eq_false (by simp), ⟨trivial, trivial, h.says⟩, rfl⟩
    rw [h0]; exact this
noncomputable def D16 : Specs := (D15.set 61 due61G)
theorem D16_ok : Ok D16 := (D15_ok.set h61)
end Go.Vm.S3
