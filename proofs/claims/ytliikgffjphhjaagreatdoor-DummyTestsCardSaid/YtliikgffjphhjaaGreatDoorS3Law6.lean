/- DummyTests: the law holds. -/
import Derived.Test.YtliikgffjphhjaaGreatDoorS3GO
import Derived.Test.YtliikgffjphhjaaGreatDoorS3GL
namespace Go.Vm.S3
open Go.Proofs Go.RowKit
set_option maxRecDepth 100000
variable (ps fs cs ts : List AV) (d u : Int)
set_option maxRecDepth 20000
theorem t6l (s : ByteArray) (w : Bool) : ev R21 6 [lbE ps fs cs ts d u, sA s] [.sp [lbE ps fs cs ts d u] (bA false), .as 24 true, .sp [] (bA w)] =
  (ak R21 37 [lbE ps fs cs ts d u] (bA false) (.need (true = true) (ak R21 14 [] (bA w) (.done (some (bA w)))))) := by kernel_rfl
theorem t6s (s : ByteArray) (w : Bool) : ev R21 6 [lbE ps fs cs ts d u, sA s] [.sp [lbE ps fs cs ts d u] (bA true), .as 24 true, .sp [] (bA w)] =
  (ak R21 37 [lbE ps fs cs ts d u] (bA true) (.need ((decide (Int.ofNat s.size > 40)) = true) (ak R21 14 [] (bA w) (.done (some (bA w)))))) := by kernel_rfl
theorem t6b (s : ByteArray) (l1 l2 l3 : List AV) (e1 e2 e3 bad : Int) : ev R21 6 [lbE ps fs cs ts d u, sA s] [.sp [lbE ps fs cs ts d u] (bA true), .as 24 false, .sp [lbE ps fs cs ts d u] (lbE ps fs cs ts d u), .sp [lbE ps fs cs ts d u, sA s] (.tup [.rsl 1 l1 false, iA e1]), .sp [lbE ps fs cs ts d u] (lbE ps fs cs ts d u), .sp [lbE ps fs cs ts d u, sA s] (.tup [.rsl 1 l2 false, iA e2]), .sp [lbE ps fs cs ts d u] (lbE ps fs cs ts d u), .sp [lbE ps fs cs ts d u, sA s] (.tup [.rsl 1 l3 false, iA e3]), .sp [lbE ps fs cs ts d u] (iA bad), .sp [lbE ps fs cs ts d u] (iA bad), .as 52 false, .sp [.rsl 1 l1 false, iA e1, iA bad, nilS] (bA true), .sp [.rsl 1 l2 false, iA e2, iA bad, nilS] (bA true), .sp [.rsl 1 l3 false, iA e3, iA bad, nilS] (bA true), .sp [] (bA true)] =
  (ak R21 37 [lbE ps fs cs ts d u] (bA true) (.need ((decide (Int.ofNat s.size > 40)) = false) (ak R21 39 [lbE ps fs cs ts d u] (lbE ps fs cs ts d u) (ak R21 52 [lbE ps fs cs ts d u, sA s] (AV.tup [.rsl 1 l1 false, iA e1]) (ak R21 39 [lbE ps fs cs ts d u] (lbE ps fs cs ts d u) (ak R21 53 [lbE ps fs cs ts d u, sA s] (AV.tup [.rsl 1 l2 false, iA e2]) (ak R21 39 [lbE ps fs cs ts d u] (lbE ps fs cs ts d u) (ak R21 54 [lbE ps fs cs ts d u, sA s] (AV.tup [.rsl 1 l3 false, iA e3]) (ak R21 42 [lbE ps fs cs ts d u] (iA bad) (ak R21 42 [lbE ps fs cs ts d u] (iA bad) (.need ((bad == 0) = false) (ak R21 31 [.rsl 1 l1 false, iA e1, iA bad, .v (.slice none 0 0)] (bA true) (ak R21 31 [.rsl 1 l2 false, iA e2, iA bad, .v (.slice none 0 0)] (bA true) (ak R21 31 [.rsl 1 l3 false, iA e3, iA bad, .v (.slice none 0 0)] (bA true) (ak R21 14 [] (bA true) (.done (some (bA true)))))))))))))))))) := by kernel_rfl
noncomputable abbrev pfS3Law6_1 {R : Type} (ps fs cs ts : List AV) (d u : Int) (s : ByteArray) (l1 l2 l3 : List AV) (e1 e2 e3 bad kt f1 kc f2 : Int) (kk9 : Dt R) : Dt R :=
 (ak R21 37 [lbE ps fs cs ts d u] (bA true) (.need ((decide (Int.ofNat s.size > 40)) = false) (ak R21 39 [lbE ps fs cs ts d u] (lbE ps fs cs ts d u) (ak R21 52 [lbE ps fs cs ts d u, sA s] (AV.tup [.rsl 1 l1 false, iA e1]) (ak R21 39 [lbE ps fs cs ts d u] (lbE ps fs cs ts d u) (ak R21 53 [lbE ps fs cs ts d u, sA s] (AV.tup [.rsl 1 l2 false, iA e2]) (ak R21 39 [lbE ps fs cs ts d u] (lbE ps fs cs ts d u) (ak R21 54 [lbE ps fs cs ts d u, sA s] (AV.tup [.rsl 1 l3 false, iA e3]) (ak R21 42 [lbE ps fs cs ts d u] (iA bad) (ak R21 42 [lbE ps fs cs ts d u] (iA bad) (.need ((bad == 0) = true) (ak R21 55 [.rsl 3 ts false, sA s] (iA kt) (ak R21 23 [iA kt] (iA f1) (ak R21 44 [.rsl 5 cs false, sA s] (iA kc) (ak R21 23 [iA kc] (iA f2) kk9)))))))))))))))
theorem t6yy (s : ByteArray) (l1 l2 l3 : List AV) (e1 e2 e3 bad : Int) (kt f1 kc f2 : Int) (m1 m2 : List AV) (m3 : List AV) : ev R21 6 [lbE ps fs cs ts d u, sA s] [.sp [lbE ps fs cs ts d u] (bA true), .as 24 false, .sp [lbE ps fs cs ts d u] (lbE ps fs cs ts d u), .sp [lbE ps fs cs ts d u, sA s] (.tup [.rsl 1 l1 false, iA e1]), .sp [lbE ps fs cs ts d u] (lbE ps fs cs ts d u), .sp [lbE ps fs cs ts d u, sA s] (.tup [.rsl 1 l2 false, iA e2]), .sp [lbE ps fs cs ts d u] (lbE ps fs cs ts d u), .sp [lbE ps fs cs ts d u, sA s] (.tup [.rsl 1 l3 false, iA e3]), .sp [lbE ps fs cs ts d u] (iA bad), .sp [lbE ps fs cs ts d u] (iA bad), .as 52 true, .sp [.rsl 3 ts false, sA s] (iA kt), .sp [iA kt] (iA f1), .sp [.rsl 5 cs false, sA s] (iA kc), .sp [iA kc] (iA f2), .as 65 true, .sp [lbE ps fs cs ts d u, iA kt] (.rsl 1 m1 false), .sp [lbE ps fs cs ts d u, iA kt] (.rsl 1 m2 false), .as 73 true, .sp [lbE ps fs cs ts d u, sA s] (.rsl 1 m3 false), .sp [.rsl 1 l1 false, iA e1, iA f1, .rsl 1 m1 false] (bA true), .sp [.rsl 1 l2 false, iA e2, iA f1, .rsl 1 m2 false] (bA true), .sp [.rsl 1 l3 false, iA e3, iA f2, .rsl 1 m3 false] (bA true), .sp [] (bA true)] =
  (pfS3Law6_1 ps fs cs ts d u s l1 l2 l3 e1 e2 e3 bad kt f1 kc f2 (.need ((f1 == 0) = true) (ak R21 56 [lbE ps fs cs ts d u, iA kt] (AV.rsl 1 m1 false) (ak R21 57 [lbE ps fs cs ts d u, iA kt] (AV.rsl 1 m2 false) (.need ((f2 == 0) = true) (ak R21 58 [lbE ps fs cs ts d u, sA s] (AV.rsl 1 m3 false) (ak R21 31 [.rsl 1 l1 false, iA e1, iA f1, .rsl 1 m1 false] (bA true) (ak R21 31 [.rsl 1 l2 false, iA e2, iA f1, .rsl 1 m2 false] (bA true) (ak R21 31 [.rsl 1 l3 false, iA e3, iA f2, .rsl 1 m3 false] (bA true) (ak R21 14 [] (bA true) (.done (some (bA true))))))))))))) := by kernel_rfl
theorem t6yn (s : ByteArray) (l1 l2 l3 : List AV) (e1 e2 e3 bad : Int) (kt f1 kc f2 : Int) (m1 m2 : List AV) : ev R21 6 [lbE ps fs cs ts d u, sA s] [.sp [lbE ps fs cs ts d u] (bA true), .as 24 false, .sp [lbE ps fs cs ts d u] (lbE ps fs cs ts d u), .sp [lbE ps fs cs ts d u, sA s] (.tup [.rsl 1 l1 false, iA e1]), .sp [lbE ps fs cs ts d u] (lbE ps fs cs ts d u), .sp [lbE ps fs cs ts d u, sA s] (.tup [.rsl 1 l2 false, iA e2]), .sp [lbE ps fs cs ts d u] (lbE ps fs cs ts d u), .sp [lbE ps fs cs ts d u, sA s] (.tup [.rsl 1 l3 false, iA e3]), .sp [lbE ps fs cs ts d u] (iA bad), .sp [lbE ps fs cs ts d u] (iA bad), .as 52 true, .sp [.rsl 3 ts false, sA s] (iA kt), .sp [iA kt] (iA f1), .sp [.rsl 5 cs false, sA s] (iA kc), .sp [iA kc] (iA f2), .as 65 true, .sp [lbE ps fs cs ts d u, iA kt] (.rsl 1 m1 false), .sp [lbE ps fs cs ts d u, iA kt] (.rsl 1 m2 false), .as 73 false, .sp [.rsl 1 l1 false, iA e1, iA f1, .rsl 1 m1 false] (bA true), .sp [.rsl 1 l2 false, iA e2, iA f1, .rsl 1 m2 false] (bA true), .sp [.rsl 1 l3 false, iA e3, iA f2, nilS] (bA true), .sp [] (bA true)] =
  (pfS3Law6_1 ps fs cs ts d u s l1 l2 l3 e1 e2 e3 bad kt f1 kc f2 (.need ((f1 == 0) = true) (ak R21 56 [lbE ps fs cs ts d u, iA kt] (AV.rsl 1 m1 false) (ak R21 57 [lbE ps fs cs ts d u, iA kt] (AV.rsl 1 m2 false) (.need ((f2 == 0) = false) (ak R21 31 [.rsl 1 l1 false, iA e1, iA f1, .rsl 1 m1 false] (bA true) (ak R21 31 [.rsl 1 l2 false, iA e2, iA f1, .rsl 1 m2 false] (bA true) (ak R21 31 [.rsl 1 l3 false, iA e3, iA f2, .v (.slice none 0 0)] (bA true) (ak R21 14 [] (bA true) (.done (some (bA true)))))))))))) := by kernel_rfl
theorem t6ny (s : ByteArray) (l1 l2 l3 : List AV) (e1 e2 e3 bad : Int) (kt f1 kc f2 : Int) (m3 : List AV) : ev R21 6 [lbE ps fs cs ts d u, sA s] [.sp [lbE ps fs cs ts d u] (bA true), .as 24 false, .sp [lbE ps fs cs ts d u] (lbE ps fs cs ts d u), .sp [lbE ps fs cs ts d u, sA s] (.tup [.rsl 1 l1 false, iA e1]), .sp [lbE ps fs cs ts d u] (lbE ps fs cs ts d u), .sp [lbE ps fs cs ts d u, sA s] (.tup [.rsl 1 l2 false, iA e2]), .sp [lbE ps fs cs ts d u] (lbE ps fs cs ts d u), .sp [lbE ps fs cs ts d u, sA s] (.tup [.rsl 1 l3 false, iA e3]), .sp [lbE ps fs cs ts d u] (iA bad), .sp [lbE ps fs cs ts d u] (iA bad), .as 52 true, .sp [.rsl 3 ts false, sA s] (iA kt), .sp [iA kt] (iA f1), .sp [.rsl 5 cs false, sA s] (iA kc), .sp [iA kc] (iA f2), .as 65 false, .as 73 true, .sp [lbE ps fs cs ts d u, sA s] (.rsl 1 m3 false), .sp [.rsl 1 l1 false, iA e1, iA f1, nilS] (bA true), .sp [.rsl 1 l2 false, iA e2, iA f1, nilS] (bA true), .sp [.rsl 1 l3 false, iA e3, iA f2, .rsl 1 m3 false] (bA true), .sp [] (bA true)] =
  (pfS3Law6_1 ps fs cs ts d u s l1 l2 l3 e1 e2 e3 bad kt f1 kc f2 (.need ((f1 == 0) = false) (.need ((f2 == 0) = true) (ak R21 58 [lbE ps fs cs ts d u, sA s] (AV.rsl 1 m3 false) (ak R21 31 [.rsl 1 l1 false, iA e1, iA f1, .v (.slice none 0 0)] (bA true) (ak R21 31 [.rsl 1 l2 false, iA e2, iA f1, .v (.slice none 0 0)] (bA true) (ak R21 31 [.rsl 1 l3 false, iA e3, iA f2, .rsl 1 m3 false] (bA true) (ak R21 14 [] (bA true) (.done (some (bA true))))))))))) := by kernel_rfl
theorem t6nn (s : ByteArray) (l1 l2 l3 : List AV) (e1 e2 e3 bad : Int) (kt f1 kc f2 : Int) : ev R21 6 [lbE ps fs cs ts d u, sA s] [.sp [lbE ps fs cs ts d u] (bA true), .as 24 false, .sp [lbE ps fs cs ts d u] (lbE ps fs cs ts d u), .sp [lbE ps fs cs ts d u, sA s] (.tup [.rsl 1 l1 false, iA e1]), .sp [lbE ps fs cs ts d u] (lbE ps fs cs ts d u), .sp [lbE ps fs cs ts d u, sA s] (.tup [.rsl 1 l2 false, iA e2]), .sp [lbE ps fs cs ts d u] (lbE ps fs cs ts d u), .sp [lbE ps fs cs ts d u, sA s] (.tup [.rsl 1 l3 false, iA e3]), .sp [lbE ps fs cs ts d u] (iA bad), .sp [lbE ps fs cs ts d u] (iA bad), .as 52 true, .sp [.rsl 3 ts false, sA s] (iA kt), .sp [iA kt] (iA f1), .sp [.rsl 5 cs false, sA s] (iA kc), .sp [iA kc] (iA f2), .as 65 false, .as 73 false, .sp [.rsl 1 l1 false, iA e1, iA f1, nilS] (bA true), .sp [.rsl 1 l2 false, iA e2, iA f1, nilS] (bA true), .sp [.rsl 1 l3 false, iA e3, iA f2, nilS] (bA true), .sp [] (bA true)] =
  (pfS3Law6_1 ps fs cs ts d u s l1 l2 l3 e1 e2 e3 bad kt f1 kc f2 (.need ((f1 == 0) = false) (.need ((f2 == 0) = false) (ak R21 31 [.rsl 1 l1 false, iA e1, iA f1, .v (.slice none 0 0)] (bA true) (ak R21 31 [.rsl 1 l2 false, iA e2, iA f1, .v (.slice none 0 0)] (bA true) (ak R21 31 [.rsl 1 l3 false, iA e3, iA f2, .v (.slice none 0 0)] (bA true) (ak R21 14 [] (bA true) (.done (some (bA true)))))))))) := by kernel_rfl
theorem gath_le {α β : Type} {g : Nat → α → List β} (h : ∀ i x, (g i x).length ≤ 1) : ∀ (l : List α) (i : Nat), (gath g i l).length ≤ l.length
 | [], _ => Nat.le_refl _
 | x :: l, i => by
  unfold gath
  rw [List.length_append, List.length_cons]
  have := h i x
  have := gath_le h l (i + 1)
  omega
theorem listed_ok (l : List ByteArray) {e : Int} (h : e = 0) : listedM l e e l = true := by
 subst h
 show (bif sameM seq l l then ((0 : Int) == 0) else false) = true
 rw [same_refl]; rfl
theorem listed_bad {e : Int} (h : (e != 0) = true) (m : List ByteArray) : listedM [] e e m = true := by
 unfold listedM
 rw [h, cond_true]
 simp [sameM]
theorem spListed {l : List ByteArray} (hl : l.length ≤ lim) (e : Int) : e = 0 → listedG [slA strC 1 l, iA e, iA e, slA strC 1 l] = some (bA true) := fun h => by
 rw [spList (blt_lim hl), listed_ok l h]
theorem spListBad {e : Int} (h : (e != 0) = true) : listedG [slA strC 1 [], iA e, iA e, nilS] = some (bA true) := by
 have : listedG [slA strC 1 [], iA e, iA e, nilS] = some (bA (listedM [] e e [])) := rfl
 rw [this, listed_bad h]
theorem wrg_lim {x : Lb} {k : Nat} (h : okLb x = true) (hk : k < x.2.2.2.1.length) : (wrgM x k).length ≤ lim := by
 have K := okLb_at h
 have hg := tsAt_get hk
 have := Nat.le_of_ble_eq_true (K.ws _ (List.mem_of_getElem? hg))
 unfold wrgM; rw [List.length_map]; exact this
theorem rea_lim {x : Lb} (s : ByteArray) (h : okLb x = true) : (reaM x s).length ≤ lim := Nat.le_trans (gath_le (chG_le _) _ _) (okLb_at h).ts
theorem law6_ok : Holds 6 (sp2 labC strC fun _ _ => some (gB true)) := holds2 fun x s r hr => by
 simp only [Option.some.injEq] at hr; subst hr
 have f37 : shortLG [lbA x] = some (bA (shortL x)) := sp1_at (A := labC) (F := fun x => some (bA (shortL x))) x
 cases hs : shortL x with
 | false =>
  rw [hs] at f37
  exact R21_ok.tr ((lx x t6l) s true) ⟨⟨rfl, f37⟩, rfl, ⟨rfl, rfl⟩, rfl⟩
 | true =>
  rw [hs] at f37
  cases h40 : decide (Int.ofNat s.size > 40) with
  | true => exact R21_ok.tr ((lx x t6s) s true) ⟨⟨rfl, f37⟩, h40, ⟨rfl, rfl⟩, rfl⟩
  | false =>
   have ok := okLb_short hs
   have K := okLb_at ok
   have f39 := spOwnL ok
   have f52 : rs52G [lbA x, sA s] = some (.tup [slA strC 1 (rs52 x s), iA (ftM x s)]) := by
    have := sp2_at (A := labC) (B := strC) (F := fun x s => bif okLb x then some (.tup [slA strC 1 (rs52 x s), iA (ftM x s)]) else none) x s
    rw [ok] at this; exact this
   have f53 : wr53G [lbA x, sA s] = some (.tup [slA strC 1 (wr53 x s), iA (ftM x s)]) := by
    have := sp2_at (A := labC) (B := strC) (F := fun x s => bif okLb x then some (.tup [slA strC 1 (wr53 x s), iA (ftM x s)]) else none) x s
    rw [ok] at this; exact this
   have f54 : wd54G [lbA x, sA s] = some (.tup [slA strC 1 (wd54 x s), iA (fcM x s)]) := by
    have := sp2_at (A := labC) (B := strC) (F := fun x s => bif okLb x then some (.tup [slA strC 1 (wd54 x s), iA (fcM x s)]) else none) x s
    rw [ok] at this; exact this
   have f42 := spLab ok
   have n1 : (ftM x s != 0) = true → rs52 x s = [] ∧ wr53 x s = [] := fun h => by unfold rs52 wr53; rw [h]; exact ⟨rfl, rfl⟩
   have n2 : (fcM x s != 0) = true → wd54 x s = [] := fun h => by unfold wd54; rw [h]; rfl
   cases hl : labM x != 0 with
   | true =>
    have e1 : ftM x s = labM x := by unfold ftM; rw [hl]; rfl
    have e2 : fcM x s = labM x := by unfold fcM; rw [hl]; rfl
    rw [e1] at f52 f53 n1
    rw [e2] at f54 n2
    have bn : (labM x == 0) = false := by simpa using hl
    obtain ⟨n1, n3⟩ := n1 hl
    rw [n1] at f52
    rw [n3] at f53
    rw [n2 hl] at f54
    have g31 := spListBad hl
    exact R21_ok.tr ((lx x t6b) s [] [] [] _ _ _ _) ⟨⟨rfl, f37⟩, h40, ⟨rfl, f39⟩, ⟨rfl, f52⟩, ⟨rfl, f39⟩, ⟨rfl, f53⟩, ⟨rfl, f39⟩, ⟨rfl, f54⟩, ⟨rfl, f42⟩, ⟨rfl, f42⟩, bn, ⟨rfl, g31⟩, ⟨rfl, g31⟩, ⟨rfl, g31⟩, ⟨rfl, rfl⟩, rfl⟩
   | false =>
    have b0 : (labM x == 0) = true := by simpa using hl
    have f55 := spFindT (l := x.2.2.2.1) s (blt_lim K.ts)
    have f23a := spUnk (findT x.2.2.2.1 s)
    have f44 := spFindC (l := x.2.2.1) s (blt_lim K.cs)
    have f23b := spUnk (findC x.2.2.1 s)
    have e1 : ftM x s = whenM (decide (findT x.2.2.2.1 s < 0)) 10 := by unfold ftM; rw [hl]; rfl
    have e2 : fcM x s = whenM (decide (findC x.2.2.1 s < 0)) 10 := by unfold fcM; rw [hl]; rfl
    have yes1 : ftM x s = 0 → tIx x s < x.2.2.2.1.length ∧ findT x.2.2.2.1 s = Int.ofNat (tIx x s) ∧ labM x = 0 ∧ rs52 x s = rstM x (tIx x s) ∧ wr53 x s = wrgM x (tIx x s) := fun h => by
     obtain ⟨hz, hf⟩ := ftM_zero h
     refine ⟨(findT_ge hf).1, (findT_ge hf).2.1, hz, ?_, ?_⟩
     ·unfold rs52; rw [h]; rfl
     ·unfold wr53; rw [h]; rfl
    have yes2 : fcM x s = 0 → wd54 x s = reaM x s := fun h => by unfold wd54; rw [h]; rfl
    have f58 : rea58G [lbA x, sA s] = some (slA strC 1 (reaM x s)) := by
     have := sp2_at (A := labC) (B := strC) (F := fun x s => bif okLb x then some (slA strC 1 (reaM x s)) else none) x s
     rw [ok] at this; exact this
    rw [← e1] at f23a
    rw [← e2] at f23b
    cases h1 : ftM x s == 0 with
    | true =>
     have z1 := eq_of_beq h1
     obtain ⟨hk, hfi, hz, y1, y2⟩ := yes1 z1
     have f56 := spRst ok hk
     have f57 := spWrg ok hz hk
     rw [← hfi] at f56 f57
     rw [← y1] at f56
     rw [← y2] at f57
     have g1 := spListed (l := rs52 x s) (by rw [y1]; exact rst_lim ok hk) _ z1
     have g2 := spListed (l := wr53 x s) (by rw [y2]; exact wrg_lim ok hk) _ z1
     cases h2 : fcM x s == 0 with
     | true =>
      have z2 := eq_of_beq h2
      rw [← yes2 z2] at f58
      have g3 := spListed (l := wd54 x s) (by rw [yes2 z2]; exact rea_lim s ok) _ z2
      exact R21_ok.tr ((lx x t6yy) s ((rs52 x s).map strC.enc) ((wr53 x s).map strC.enc) ((wd54 x s).map strC.enc) _ _ _ _ _ _ _ _ _ _ _) ⟨⟨rfl, f37⟩, h40, ⟨rfl, f39⟩, ⟨rfl, f52⟩, ⟨rfl, f39⟩, ⟨rfl, f53⟩, ⟨rfl, f39⟩, ⟨rfl, f54⟩, ⟨rfl, f42⟩, ⟨rfl, f42⟩, b0, ⟨rfl, f55⟩, ⟨rfl, f23a⟩, ⟨rfl, f44⟩, ⟨rfl, f23b⟩, h1, ⟨rfl, f56⟩, ⟨rfl, f57⟩, h2, ⟨rfl, f58⟩, ⟨rfl, g1⟩, ⟨rfl, g2⟩, ⟨rfl, g3⟩, ⟨rfl, rfl⟩, rfl⟩
     | false =>
      have z2 : (fcM x s != 0) = true := by simpa using h2
      rw [n2 z2] at f54
      exact R21_ok.tr ((lx x t6yn) s ((rs52 x s).map strC.enc) ((wr53 x s).map strC.enc) [] _ _ _ _ _ _ _ _ _ _) ⟨⟨rfl, f37⟩, h40, ⟨rfl, f39⟩, ⟨rfl, f52⟩, ⟨rfl, f39⟩, ⟨rfl, f53⟩, ⟨rfl, f39⟩, ⟨rfl, f54⟩, ⟨rfl, f42⟩, ⟨rfl, f42⟩, b0, ⟨rfl, f55⟩, ⟨rfl, f23a⟩, ⟨rfl, f44⟩, ⟨rfl, f23b⟩, h1, ⟨rfl, f56⟩, ⟨rfl, f57⟩, h2, ⟨rfl, g1⟩, ⟨rfl, g2⟩, ⟨rfl, spListBad z2⟩, ⟨rfl, rfl⟩, rfl⟩
    | false =>
     have z1 : (ftM x s != 0) = true := by simpa using h1
     obtain ⟨n1, n3⟩ := n1 z1
     rw [n1] at f52
     rw [n3] at f53
     have g1 := spListBad z1
     cases h2 : fcM x s == 0 with
     | true =>
      have z2 := eq_of_beq h2
      rw [← yes2 z2] at f58
      have g3 := spListed (l := wd54 x s) (by rw [yes2 z2]; exact rea_lim s ok) _ z2
      exact R21_ok.tr ((lx x t6ny) s [] [] ((wd54 x s).map strC.enc) _ _ _ _ _ _ _ _ _) ⟨⟨rfl, f37⟩, h40, ⟨rfl, f39⟩, ⟨rfl, f52⟩, ⟨rfl, f39⟩, ⟨rfl, f53⟩, ⟨rfl, f39⟩, ⟨rfl, f54⟩, ⟨rfl, f42⟩, ⟨rfl, f42⟩, b0, ⟨rfl, f55⟩, ⟨rfl, f23a⟩, ⟨rfl, f44⟩, ⟨rfl, f23b⟩, h1, h2, ⟨rfl, f58⟩, ⟨rfl, g1⟩, ⟨rfl, g1⟩, ⟨rfl, g3⟩, ⟨rfl, rfl⟩, rfl⟩
     | false =>
      have z2 : (fcM x s != 0) = true := by simpa using h2
      rw [n2 z2] at f54
      exact R21_ok.tr ((lx x t6nn) s [] [] [] _ _ _ _ _ _ _ _) ⟨⟨rfl, f37⟩, h40, ⟨rfl, f39⟩, ⟨rfl, f52⟩, ⟨rfl, f39⟩, ⟨rfl, f53⟩, ⟨rfl, f39⟩, ⟨rfl, f54⟩, ⟨rfl, f42⟩, ⟨rfl, f42⟩, b0, ⟨rfl, f55⟩, ⟨rfl, f23a⟩, ⟨rfl, f44⟩, ⟨rfl, f23b⟩, h1, h2, ⟨rfl, g1⟩, ⟨rfl, g1⟩, ⟨rfl, spListBad z2⟩, ⟨rfl, rfl⟩, rfl⟩
end Go.Vm.S3
