/- DummyWithdraws: the law holds. -/
import Derived.Test.YtliikgffjphhjaaGreatDoorS3W4
namespace Go.Vm.S3
open Go.Proofs Go.RowKit
set_option maxRecDepth 20000
theorem law9_cmp (x : Lb) (ix : Int) (h0 : 0 ≤ ix) (h1 : ix < 256) : Cmp 9 [lbA x, u8A ix] (gB true) := by
 have f76 : small76G [lbA x] = some (bA (smallM x)) := sp1_at (A := labC) (F := fun x => some (bA (smallM x))) x
 cases hs : smallM x with
 | false => rw [hs] at f76; exact W3_ok.tr ((lx x t9s) ix true) ⟨⟨rfl, f76⟩, ⟨rfl, rfl⟩, rfl⟩
 | true =>
  rw [hs] at f76
  unfold smallM at hs
  simp only [Bool.and_eq_true, beq_iff_eq] at hs
  obtain ⟨_, _, _, _, hsh, hz⟩ := hs
  have hok := okLb_short hsh
  have K := okLb_at hok
  have hlim := K.cs
  have e := e_cb x.2.2.1
  cases hn : (Int.ofNat (x.2.2.1.map cbC.enc).length == 0) with
  | true => exact W3_ok.tr ((lx x t9z) ix true) ⟨⟨rfl, f76⟩, hn, ⟨rfl, rfl⟩, rfl⟩
  | false =>
   have hpos : x.2.2.1.length ≠ 0 := fun h => by rw [e, h] at hn; cases hn
   obtain ⟨n, rfl⟩ := Int.eq_ofNat_of_zero_le h0
   have hk : n % x.2.2.1.length < x.2.2.1.length := Nat.mod_lt _ (Nat.pos_of_ne_zero hpos)
   have hrem : ∀ a b, abin (CS W3) BinOp.rem 3 a b (iA (IntKind.i64.wrap (Int.ofNat n))) (iA (Int.ofNat (x.2.2.1.map cbC.enc).length)) = some (iA (Int.ofNat (n % x.2.2.1.length))) := fun a b => by
    rw [e, wrap_in (by simp only [Int.ofNat_eq_natCast]; omega) (by simp only [Int.ofNat_eq_natCast] at h1 ⊢; omega), rem_ok W3 a b (by simp only [Int.ofNat_eq_natCast]; omega)]
    rfl
   generalize n % x.2.2.1.length = k at hk hrem
   have hg := cbAt_get hk
   generalize hck : cbAt x k = ck at hg
   obtain ⟨n1, n2, n3⟩ := fc_name hz hg
   have hokW := okWo k hok
   have hzW := lab_wo hz hk
   have f39 := spOwnL hok
   have f51 := spOwnL hokW
   have f42 := spLab hokW
   rw [hzW] at f42
   have f54 : wd54G [lbA x, sA ck.1] = some (.tup [slA strC 1 (reaM x ck.1), iA 0]) := by
    have := sp2_at (A := labC) (B := strC) (F := fun x s => bif okLb x then some (.tup [slA strC 1 (wd54 x s), iA (fcM x s)]) else none) x ck.1
    rw [hok, n1, show wd54 x ck.1 = reaM x ck.1 by unfold wd54; rw [n1]; rfl] at this; exact this
   have f41 : wo41G [lbA x, sA ck.1] = some (.tup [lbA (woM x k), iA 0]) := by
    have := sp2_at (A := labC) (B := strC) (F := fun x s => bif okLb x then some (.tup [lbA (wo41 x s), iA (fcM x s)]) else none) x ck.1
    rw [hok, n1, show wo41 x ck.1 = woM x k by unfold wo41; rw [n1, n2]; rfl] at this; exact this
   have f59 : cv59G [lbA x] = some (.tup [slA strC 1 (chM x (covM x)), iA 0]) := by
    have := sp1_at (A := labC) (F := fun x => bif okLb x then some (.tup [slA strC 1 (ch135 x (covM x)), iA (labM x)]) else none) x
    rw [hok, hz, show ch135 x (covM x) = chM x (covM x) by unfold ch135; rw [hz]; rfl] at this; exact this
   have hlen : (Int.ofNat ((woM x k).2.2.1.map cbC.enc).length != IntKind.i64.wrap (Int.ofNat (x.2.2.1.map cbC.enc).length - 1)) = false := by
    have h2 : (woM x k).2.2.1.length = x.2.2.1.length - 1 := by
     show (x.2.2.1.take k ++ x.2.2.1.drop (k + 1)).length = _
     rw [List.length_append, List.length_take, List.length_drop]; omega
    rw [e, List.length_map, h2, wrap_in (by simp only [Int.ofNat_eq_natCast]; omega) (by unfold lim at hlim; simp only [Int.ofNat_eq_natCast]; omega)]
    simp only [Int.ofNat_eq_natCast, bne_eq_false_iff_eq]
    omega
   have h := outer9 hok hz hg
   exact W3_ok.tr ((lx x t9) (Int.ofNat n) k ((woM x k).2.2.1.map cbC.enc) ck.1 ck.2.1 ck.2.2.1 ck.2.2.2.1 (ck.2.2.2.2.map intC.enc) ((reaM x ck.1).map strC.enc) ((chM x (covM x)).map strC.enc)) ⟨⟨rfl, f76⟩, hn, hrem _ _, get_map cbC.enc hg, ⟨rfl, f39⟩, ⟨rfl, f54⟩, ⟨rfl, f39⟩, ⟨rfl, f41⟩, ⟨rfl, f39⟩, ⟨rfl, f59⟩, ⟨rfl, f51⟩, ⟨rfl, f42⟩, hlen, by simp, ⟨trivial, trivial, h.says⟩, ⟨rfl, rfl⟩, rfl⟩
end Go.Vm.S3
