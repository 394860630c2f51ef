/- InjuryRanks: the law's contract. -/
import Derived.Test.YtbplbhcgcicgfaaGreatDoorS6KS
namespace Go.Vm.S6
open Go.Proofs Go.RowKit
set_option maxRecDepth 100000 in
theorem t10s (es : List AV) : evTreeD (CS K3) 60 10 [.rsl 2 es false] [.sp [] (boolA true), .sp [.rsl 2 es false] (boolA false), .as 16 true, .sp [] (boolA true)] =
    (.need (([] : List AV) = ([] : List AV) ∧ (Cx.spec (CS K3) 16 ([] : List AV)) = (some (AV.v (.bool true)))) (.need (([.rsl 2 es false] : List AV) = ([.rsl 2 es false] : List AV) ∧ (Cx.spec (CS K3) 72 ([.rsl 2 es false] : List AV)) = (some (AV.v (.bool false)))) (.need (true = true) (.need (([] : List AV) = ([] : List AV) ∧ (Cx.spec (CS K3) 16 ([] : List AV)) = (some (AV.v (.bool true)))) (.done (some (.v (.bool true)))))))) := by kernel_rfl
set_option maxRecDepth 100000 in
theorem t10e (es : List AV) (e : Int) : evTreeD (CS K3) 60 10 [.rsl 2 es false] [.sp [] (boolA true), .sp [.rsl 2 es false] (boolA true), .as 16 false, .sp [.rsl 2 es false] (.rsl 2 es false), .sp [.rsl 2 es false] (.tup [.agg [intA 0, intA 0], intA e]), .sp [.rsl 2 es false] (.rsl 2 es false), .sp [.rsl 2 es false] (.tup [nilS, intA e]), .sp [.rsl 2 es false] (intA e), .as 34 false, .eq (boolA true), .as 47 true, .sp [nilS, nilS] (boolA true)] =
    (.need (([] : List AV) = ([] : List AV) ∧ (Cx.spec (CS K3) 16 ([] : List AV)) = (some (AV.v (.bool true)))) (.need (([.rsl 2 es false] : List AV) = ([.rsl 2 es false] : List AV) ∧ (Cx.spec (CS K3) 72 ([.rsl 2 es false] : List AV)) = (some (AV.v (.bool true)))) (.need ((!true) = false) (.need (([.rsl 2 es false] : List AV) = ([.rsl 2 es false] : List AV) ∧ (Cx.spec (CS K3) 74 ([.rsl 2 es false] : List AV)) = (some (AV.rsl 2 es false))) (.need (([.rsl 2 es false] : List AV) = ([.rsl 2 es false] : List AV) ∧ (Cx.spec (CS K3) 73 ([.rsl 2 es false] : List AV)) = (some (AV.tup [.agg [.v (.int .i64 0), .v (.int .i64 0)], .v (.int .i64 e)]))) (.need (([.rsl 2 es false] : List AV) = ([.rsl 2 es false] : List AV) ∧ (Cx.spec (CS K3) 74 ([.rsl 2 es false] : List AV)) = (some (AV.rsl 2 es false))) (.need (([.rsl 2 es false] : List AV) = ([.rsl 2 es false] : List AV) ∧ (Cx.spec (CS K3) 75 ([.rsl 2 es false] : List AV)) = (some (AV.tup [.v (.slice none 0 0), .v (.int .i64 e)]))) (.need (([.rsl 2 es false] : List AV) = ([.rsl 2 es false] : List AV) ∧ (Cx.spec (CS K3) 76 ([.rsl 2 es false] : List AV)) = (some (AV.v (.int .i64 e)))) (.need ((e == 0) = false) (.need ((abin (CS K3) BinOp.eql 28 (Operand.tmp 39) (Operand.tmp 40) (AV.agg [.v (.int .i64 0), .v (.int .i64 0)]) (AV.agg [.v (.int .i64 0), .v (.int .i64 0)])) = (some (AV.v (.bool true)))) (.need ((e == e) = true) (.need (([.v (.slice none 0 0), .v (.slice none 0 0)] : List AV) = ([.v (.slice none 0 0), .v (.slice none 0 0)] : List AV) ∧ (Cx.spec (CS K3) 45 ([.v (.slice none 0 0), .v (.slice none 0 0)] : List AV)) = (some (AV.v (.bool true)))) (.done (some (.v (.bool (e == e))))))))))))))))) := by kernel_rfl
set_option maxRecDepth 100000 in
theorem t10o (es rs : List AV) (a b : Int) : evTreeD (CS K3) 60 10 [.rsl 2 es false] [.sp [] (boolA true), .sp [.rsl 2 es false] (boolA true), .as 16 false, .sp [.rsl 2 es false] (.rsl 2 es false), .sp [.rsl 2 es false] (.tup [.agg [intA a, intA b], intA 0]), .sp [.rsl 2 es false] (.rsl 2 es false), .sp [.rsl 2 es false] (.tup [.rsl 1 rs false, intA 0]), .sp [.rsl 2 es false] (intA 0), .sp [.rsl 2 es false] (.agg [intA a, intA b]), .sp [.rsl 2 es false] (.rsl 1 rs false), .eq (boolA true), .sp [.rsl 1 rs false, .rsl 1 rs false] (boolA true)] =
    (.need (([] : List AV) = ([] : List AV) ∧ (Cx.spec (CS K3) 16 ([] : List AV)) = (some (AV.v (.bool true)))) (.need (([.rsl 2 es false] : List AV) = ([.rsl 2 es false] : List AV) ∧ (Cx.spec (CS K3) 72 ([.rsl 2 es false] : List AV)) = (some (AV.v (.bool true)))) (.need ((!true) = false) (.need (([.rsl 2 es false] : List AV) = ([.rsl 2 es false] : List AV) ∧ (Cx.spec (CS K3) 74 ([.rsl 2 es false] : List AV)) = (some (AV.rsl 2 es false))) (.need (([.rsl 2 es false] : List AV) = ([.rsl 2 es false] : List AV) ∧ (Cx.spec (CS K3) 73 ([.rsl 2 es false] : List AV)) = (some (AV.tup [.agg [.v (.int .i64 a), .v (.int .i64 b)], .v (.int .i64 0)]))) (.need (([.rsl 2 es false] : List AV) = ([.rsl 2 es false] : List AV) ∧ (Cx.spec (CS K3) 74 ([.rsl 2 es false] : List AV)) = (some (AV.rsl 2 es false))) (.need (([.rsl 2 es false] : List AV) = ([.rsl 2 es false] : List AV) ∧ (Cx.spec (CS K3) 75 ([.rsl 2 es false] : List AV)) = (some (AV.tup [.rsl 1 rs false, .v (.int .i64 0)]))) (.need (([.rsl 2 es false] : List AV) = ([.rsl 2 es false] : List AV) ∧ (Cx.spec (CS K3) 76 ([.rsl 2 es false] : List AV)) = (some (AV.v (.int .i64 0)))) (.need (([.rsl 2 es false] : List AV) = ([.rsl 2 es false] : List AV) ∧ (Cx.spec (CS K3) 77 ([.rsl 2 es false] : List AV)) = (some (AV.agg [.v (.int .i64 a), .v (.int .i64 b)]))) (.need (([.rsl 2 es false] : List AV) = ([.rsl 2 es false] : List AV) ∧ (Cx.spec (CS K3) 78 ([.rsl 2 es false] : List AV)) = (some (AV.rsl 1 rs false))) (.need ((abin (CS K3) BinOp.eql 28 (Operand.tmp 39) (Operand.tmp 40) (AV.agg [.v (.int .i64 a), .v (.int .i64 b)]) (AV.agg [.v (.int .i64 a), .v (.int .i64 b)])) = (some (AV.v (.bool true)))) (.need (([.rsl 1 rs false, .rsl 1 rs false] : List AV) = ([.rsl 1 rs false, .rsl 1 rs false] : List AV) ∧ (Cx.spec (CS K3) 45 ([.rsl 1 rs false, .rsl 1 rs false] : List AV)) = (some (AV.v (.bool true)))) (.done (some (.v (.bool (0 == 0))))))))))))))))) := by kernel_rfl
def law10G : List AV → Option AV := sp1 ratsC fun _ => some (boolA true)
theorem sameRefl10 (l : List Int) (h : l.length < two63) : sameG [slA intC 1 l, slA intC 1 l] = some (boolA true) := by
  have h1 := sp2_at (A := intsC) (B := intsC) (F := fun l m => bif Nat.blt l.length two63 then some (boolA (sameM (· == ·) l m)) else none) l l
  have hb : Nat.blt l.length two63 = true := Nat.ble_eq_true_of_le h
  rw [hb, sameM_refl (fun x => by simp) l] at h1
  exact h1
theorem h10 : Holds 10 law10G := holds1 fun l r hr => by
  simp only [Option.some.injEq] at hr; subst hr
  have f16 : awakeG [] = some (boolA true) := rfl
  have f72 : shrG [slA p2C 2 l] = some (boolA (decide (Int.ofNat l.length ≤ 16))) := sp1_at (A := ratsC) (F := fun l => some (boolA (decide (Int.ofNat l.length ≤ 16)))) l
  by_cases h16 : l.length ≤ 16
  · have hd : decide (Int.ofNat l.length ≤ 16) = true := by simp only [decide_eq_true_eq, Int.ofNat_eq_natCast]; omega
    rw [hd] at f72
    have hlim : Nat.ble l.length lim = true := Nat.ble_eq_true_of_le (by unfold lim; omega)
    have f74 : ownRG [slA p2C 2 l] = some (slA p2C 2 l) := by
      have := sp1_at (A := ratsC) (F := fun l => bif Nat.ble l.length lim then some (slA p2C 2 l) else none) l
      rw [hlim] at this; exact this
    have f76 := spCs hlim
    have f73 : medG [slA p2C 2 l] = some (medT l) := by
      have := sp1_at (A := ratsC) (F := fun l => bif Nat.ble l.length lim then some (medT l) else none) l
      rw [hlim] at this; exact this
    have f75 : rnkG [slA p2C 2 l] = some (rnkT l) := by
      have := sp1_at (A := ratsC) (F := fun l => bif Nat.ble l.length lim then some (rnkT l) else none) l
      rw [hlim] at this; exact this
    unfold medT at f73
    unfold rnkT at f75
    cases hc : csErr l == 0 with
    | false =>
      rw [hc] at f73 f75
      have he : (csErr l == csErr l) = true := by simp
      have f45 : sameG [nilS, nilS] = some (boolA true) := rfl
      have ht := t10e (l.map p2C.enc) (csErr l)
      rw [he] at ht
      exact K3_ok.tr ht ⟨⟨rfl, f16⟩, ⟨rfl, f72⟩, rfl, ⟨rfl, f74⟩, ⟨rfl, f73⟩, ⟨rfl, f74⟩, ⟨rfl, f75⟩, ⟨rfl, f76⟩, hc, (eqRa K3 (.tmp 39) (.tmp 40) 0 0 0 0).1, rfl, ⟨rfl, f45⟩, rfl⟩
    | true =>
      have h0 : csErr l = 0 := by simpa using hc
      rw [hc] at f73 f75
      rw [h0] at f76
      have f78 := spRk h0
      have f77 : medRG [slA p2C 2 l] = some (p2A (atR l (midI l))) := by
        have := sp1_at (A := ratsC) (F := fun l => bif csErr l == 0 then some (p2A (atR l (midI l))) else none) l
        rw [hc] at this; exact this
      have hlen : (rankR (ltI l) l.length l.length).length = l.length := by
        obtain ⟨_, _, _, _, _, _, h6⟩ := rankR_spec (swoR (csZ.1 h0).2) l.length l.length (Nat.le_refl _)
        exact h6
      have f45 := sameRefl10 ((rankR (ltI l) l.length l.length).map Int.ofNat) (by rw [List.length_map, hlen]; unfold two63; omega)
      rw [nats_map] at f45
      have hq := (eqRa K3 (.tmp 39) (.tmp 40) (atR l (midI l)).1 (atR l (midI l)).2 (atR l (midI l)).1 (atR l (midI l)).2).1
      have hg : ((atR l (midI l)).1 == (atR l (midI l)).1 && ((atR l (midI l)).2 == (atR l (midI l)).2 && true)) = true := by simp
      rw [hg] at hq
      exact K3_ok.tr (t10o (l.map p2C.enc) ((rankR (ltI l) l.length l.length).map natA) (atR l (midI l)).1 (atR l (midI l)).2)
        ⟨⟨rfl, f16⟩, ⟨rfl, f72⟩, rfl, ⟨rfl, f74⟩, ⟨rfl, f73⟩, ⟨rfl, f74⟩, ⟨rfl, f75⟩, ⟨rfl, f76⟩, ⟨rfl, f77⟩, ⟨rfl, f78⟩, hq, ⟨rfl, f45⟩, rfl⟩
  · have hd : decide (Int.ofNat l.length ≤ 16) = false := by simp only [decide_eq_false_iff_not, Int.ofNat_eq_natCast]; omega
    rw [hd] at f72
    exact K3_ok.tr (t10s (l.map p2C.enc)) ⟨⟨rfl, f16⟩, ⟨rfl, f72⟩, rfl, ⟨rfl, f16⟩, rfl⟩
end Go.Vm.S6
