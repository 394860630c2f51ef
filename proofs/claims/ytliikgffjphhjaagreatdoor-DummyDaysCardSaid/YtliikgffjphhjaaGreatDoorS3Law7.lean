/- DummyDays: the law holds. -/
import Derived.Test.YtliikgffjphhjaaGreatDoorS3GQ
import Derived.Test.YtliikgffjphhjaaGreatDoorS3GO
namespace Go.Vm.S3
open Go.Proofs Go.RowKit
set_option maxRecDepth 100000
variable (ps fs cs ts : List AV) (d u : Int)
set_option maxRecDepth 20000
theorem t7l (day : Int) (w : Bool) : L D16 7 [lbE ps fs cs ts d u, iA day] [.sp [lbE ps fs cs ts d u] (bA false), .sp [] (bA w)] [.f 37, .f 14] (bA w) := kr (by kernel_rfl)
abbrev cLaw7_12 (ps fs cs ts : List AV) (d u day : Int) (l1 l2 l3 : List AV) (e1 e3 bad f g : Int) (h9 : List Hn) (a9 : List An) (r9 : AV) : Prop := L D16 7 [lbE ps fs cs ts d u, iA day] ([.sp [lbE ps fs cs ts d u] (bA true), .sp [lbE ps fs cs ts d u] (lbE ps fs cs ts d u), .sp [lbE ps fs cs ts d u] (.tup [.rsl 1 l1 false, iA e1]), .sp [lbE ps fs cs ts d u] (lbE ps fs cs ts d u), .sp [lbE ps fs cs ts d u] (.tup [.rsl 1 l2 false, iA e1]), .sp [lbE ps fs cs ts d u] (lbE ps fs cs ts d u), .sp [lbE ps fs cs ts d u, iA day] (.tup [.rsl 1 l3 false, iA e3]), .sp [lbE ps fs cs ts d u] (iA bad), .sp [iA day] (iA f), .sp [.rsl 1 [iA bad, iA f] true] (iA g)] ++ h9) ([.f 37, .f 39, .f 59, .f 39, .f 60, .f 39, .f 61, .f 42, .f 43, .f 21] ++ a9) r9
theorem t7b (day : Int) (l1 l2 l3 : List AV) (e1 e3 bad f g : Int) : cLaw7_12 ps fs cs ts d u day l1 l2 l3 e1 e3 bad f g [.as 47 false, .as 53 false, .sp [.rsl 1 l1 false, iA e1, iA bad, nilS] (bA true), .sp [.rsl 1 l2 false, iA e1, iA bad, nilS] (bA true), .sp [.rsl 1 l3 false, iA e3, iA g, nilS] (bA true), .sp [] (bA true)] [.b (bad == 0), .b (g == 0), .f 31, .f 31, .f 31, .f 14] (bA true) := kr (by kernel_rfl)
theorem t7n (day : Int) (l1 l2 l3 : List AV) (e1 e3 bad f g : Int) (m1 m2 : List AV) : cLaw7_12 ps fs cs ts d u day l1 l2 l3 e1 e3 bad f g [.as 47 true, .sp [lbE ps fs cs ts d u] (.rsl 1 m1 false), .sp [lbE ps fs cs ts d u] (.rsl 1 m2 false), .as 53 false, .sp [.rsl 1 l1 false, iA e1, iA bad, .rsl 1 m1 false] (bA true), .sp [.rsl 1 l2 false, iA e1, iA bad, .rsl 1 m2 false] (bA true), .sp [.rsl 1 l3 false, iA e3, iA g, nilS] (bA true), .sp [] (bA true)] [.b (bad == 0), .f 62, .f 63, .b (g == 0), .f 31, .f 31, .f 31, .f 14] (bA true) := kr (by kernel_rfl)
theorem t7y (day : Int) (l1 l2 l3 : List AV) (e1 e3 bad f g : Int) (m1 m2 m3 : List AV) : cLaw7_12 ps fs cs ts d u day l1 l2 l3 e1 e3 bad f g [.as 47 true, .sp [lbE ps fs cs ts d u] (.rsl 1 m1 false), .sp [lbE ps fs cs ts d u] (.rsl 1 m2 false), .as 53 true, .sp [lbE ps fs cs ts d u, iA day] (.rsl 1 m3 false), .sp [.rsl 1 l1 false, iA e1, iA bad, .rsl 1 m1 false] (bA true), .sp [.rsl 1 l2 false, iA e1, iA bad, .rsl 1 m2 false] (bA true), .sp [.rsl 1 l3 false, iA e3, iA g, .rsl 1 m3 false] (bA true), .sp [] (bA true)] [.b (bad == 0), .f 62, .f 63, .b (g == 0), .f 64, .f 31, .f 31, .f 31, .f 14] (bA true) := kr (by kernel_rfl)
theorem ch_lim {x : Lb} (g : Nat → Bool) (h : okLb x = true) : (chM x g).length ≤ lim := Nat.le_trans (gath_le (chG_le _) _ _) (okLb_at h).ts
theorem due_lim {x : Lb} (day : Int) (l : List Ts) (h : okLb x = true) : (dueM x day l).length ≤ lim := Nat.le_trans (gath_le (dueG_le _ _ _) _ _) (okPts_le (okLb_at h).ps)
theorem law7_ok : Holds 7 (sp2 labC intC fun _ _ => some (gB true)) := holds2 fun x day r hr => by
 simp only [Option.some.injEq] at hr; subst hr
 have f37 : shortLG [lbA x] = some (bA (shortL x)) := sp1_at (A := labC) (F := fun x => some (bA (shortL x))) x
 cases hs : shortL x with
 | false =>
  rw [hs] at f37
  exact D16_ok.tr ((lx x t7l) day true) ⟨⟨rfl, f37⟩, ⟨rfl, rfl⟩, rfl⟩
 | true =>
  rw [hs] at f37
  have ok := okLb_short hs
  have f39 := spOwnL ok
  have f59 : cv59G [lbA x] = some (.tup [slA strC 1 (ch135 x (covM x)), iA (labM x)]) := by
   have := sp1_at (A := labC) (F := fun x => bif okLb x then some (.tup [slA strC 1 (ch135 x (covM x)), iA (labM x)]) else none) x
   rw [ok] at this; exact this
  have f60 : qu60G [lbA x] = some (.tup [slA strC 1 (ch135 x (queM x)), iA (labM x)]) := by
   have := sp1_at (A := labC) (F := fun x => bif okLb x then some (.tup [slA strC 1 (ch135 x (queM x)), iA (labM x)]) else none) x
   rw [ok] at this; exact this
  have f61 : due61G [lbA x, iA day] = some (.tup [slA strC 1 (due61 x day), iA (firstM [labM x, dayM day])]) := by
   have := sp2_at (A := labC) (B := intC) (F := fun x day => bif okLb x then some (.tup [slA strC 1 (due61 x day), iA (firstM [labM x, dayM day])]) else none) x day
   rw [ok] at this; exact this
  have f42 := spLab ok
  have f43 := spDay day
  have f21 : first2G [.rsl 1 [iA (labM x), iA (dayM day)] true] = some (iA (firstM [labM x, dayM day])) := rfl
  have fs : firstM [labM x, dayM day] = bif labM x != 0 then labM x else firstM [dayM day] := rfl
  cases hl : labM x != 0 with
  | true =>
   have bn : (labM x == 0) = false := by simpa using hl
   have e3 : firstM [labM x, dayM day] = labM x := by rw [fs, hl]; rfl
   have n1 : ∀ g, ch135 x g = [] := fun g => by unfold ch135; rw [hl]; rfl
   have n3 : due61 x day = [] := by unfold due61; rw [e3, hl]; rfl
   rw [n1] at f59 f60
   rw [n3, e3] at f61
   rw [e3] at f21
   have g31 := spListBad hl
   exact D16_ok.tr ((lx x t7b) day [] [] [] _ _ _ _ _) ⟨⟨rfl, f37⟩, ⟨rfl, f39⟩, ⟨rfl, f59⟩, ⟨rfl, f39⟩, ⟨rfl, f60⟩, ⟨rfl, f39⟩, ⟨rfl, f61⟩, ⟨rfl, f42⟩, ⟨rfl, f43⟩, ⟨rfl, f21⟩, bn, bn, ⟨rfl, g31⟩, ⟨rfl, g31⟩, ⟨rfl, g31⟩, ⟨rfl, rfl⟩, rfl⟩
  | false =>
   have hz : labM x = 0 := by simpa using hl
   have b0 : (labM x == 0) = true := by simpa using hl
   have y1 : ∀ g, ch135 x g = chM x g := fun g => by unfold ch135; rw [hl]; rfl
   rw [y1] at f59 f60
   have f62 : cv62G [lbA x] = some (slA strC 1 (chM x (covM x))) := by
    have := sp1_at (A := labC) (F := fun x => bif okLb x && decide (labM x = 0) then some (slA strC 1 (chM x (covM x))) else none) x
    rw [ok, decide_eq_true hz] at this; exact this
   have f63 : qu63G [lbA x] = some (slA strC 1 (chM x (queM x))) := by
    have := sp1_at (A := labC) (F := fun x => bif okLb x && decide (labM x = 0) then some (slA strC 1 (chM x (queM x))) else none) x
    rw [ok, decide_eq_true hz] at this; exact this
   have g1 := spListed (ch_lim (covM x) ok) (labM x) hz
   have g2 := spListed (ch_lim (queM x) ok) (labM x) hz
   cases h3 : firstM [labM x, dayM day] == 0 with
   | true =>
    have z3 := eq_of_beq h3
    have e3 : due61 x day = dueM x day (befM day x.2.2.2.1) := by unfold due61; rw [z3]; rfl
    rw [e3] at f61
    have f64 : due64G [lbA x, iA day] = some (slA strC 1 (dueM x day (befM day x.2.2.2.1))) := by
     have := sp2_at (A := labC) (B := intC) (F := fun x day => bif okLb x && decide (labM x = 0) then some (slA strC 1 (dueM x day (befM day x.2.2.2.1))) else none) x day
     rw [ok, decide_eq_true hz] at this; exact this
    have g3 := spListed (due_lim day (befM day x.2.2.2.1) ok) _ z3
    exact D16_ok.tr ((lx x t7y) day _ _ _ _ _ _ _ _ _ _ _) ⟨⟨rfl, f37⟩, ⟨rfl, f39⟩, ⟨rfl, f59⟩, ⟨rfl, f39⟩, ⟨rfl, f60⟩, ⟨rfl, f39⟩, ⟨rfl, f61⟩, ⟨rfl, f42⟩, ⟨rfl, f43⟩, ⟨rfl, f21⟩, b0, ⟨rfl, f62⟩, ⟨rfl, f63⟩, h3, ⟨rfl, f64⟩, ⟨rfl, g1⟩, ⟨rfl, g2⟩, ⟨rfl, g3⟩, ⟨rfl, rfl⟩, rfl⟩
   | false =>
    have z3 : (firstM [labM x, dayM day] != 0) = true := by simpa using h3
    have e3 : due61 x day = [] := by unfold due61; rw [z3]; rfl
    rw [e3] at f61
    exact D16_ok.tr ((lx x t7n) day _ _ [] _ _ _ _ _ _ _) ⟨⟨rfl, f37⟩, ⟨rfl, f39⟩, ⟨rfl, f59⟩, ⟨rfl, f39⟩, ⟨rfl, f60⟩, ⟨rfl, f39⟩, ⟨rfl, f61⟩, ⟨rfl, f42⟩, ⟨rfl, f43⟩, ⟨rfl, f21⟩, b0, ⟨rfl, f62⟩, ⟨rfl, f63⟩, h3, ⟨rfl, g1⟩, ⟨rfl, g2⟩, ⟨rfl, spListBad z3⟩, ⟨rfl, rfl⟩, rfl⟩
end Go.Vm.S3
