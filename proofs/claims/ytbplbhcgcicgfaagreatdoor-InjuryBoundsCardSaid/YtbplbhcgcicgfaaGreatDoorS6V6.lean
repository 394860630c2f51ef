/- The closure's answer. -/
import Derived.Test.YtbplbhcgcicgfaaGreatDoorS6V5
namespace Go.Vm.S6
open Go.Proofs Go.RowKit
set_option maxRecDepth 100000 in
theorem t120 (es : List AV) (a b : Nat) (w : Bool) : evTreeD (CS V4) 60 120 [.agg [intA (Int.ofNat a), intA (Int.ofNat b)], .rptr [.rsl 4 es false]] [.chk [], .sp [.rsl 4 ((es.drop a).take (b - a)) false, fnV 122] (boolA w)] =
    (.need (a ≤ b ∧ b ≤ es.length) (.need (([.rsl 4 (List.take (b - a) (List.drop a es)) false, .fn (Fn.func 122) [] []] : List AV) = ([.rsl 4 (List.take (b - a) (List.drop a es)) false, .fn (Fn.func 122) [] []] : List AV) ∧ (Cx.spec (CS V4) 121 ([.rsl 4 (List.take (b - a) (List.drop a es)) false, .fn (Fn.func 122) [] []] : List AV)) = (some (AV.v (.bool w)))) (.done (some (.v (.bool !w)))))) := by kernel_rfl
def und120G : List AV → Option AV := sp2 p2C rvC fun s l => bif unOk l s then some (boolA (!(unW l (natOf s.1) (natOf s.2)))) else none
theorem h120 : Holds 120 und120G := holds2 fun s l r hr => by
  cases hb : unOk l s with
  | false => simp [hb] at hr
  | true =>
    simp only [hb, cond_true, Option.some.injEq] at hr; subst hr
    unfold unOk at hb
    simp only [Bool.and_eq_true, beq_iff_eq] at hb
    obtain ⟨a, b, rfl, hab⟩ := winZ hb.2
    have hl := Nat.le_of_ble_eq_true hb.1
    have ew : ((l.map vaC.enc).drop a).take (b - a) = ((l.drop a).take (b - a)).map vaC.enc := by rw [List.map_take, List.map_drop]
    have hlw : Nat.ble ((l.drop a).take (b - a)).length lim = true := Nat.ble_eq_true_of_le (by simp; omega)
    refine V4_ok.tr (t120 (l.map vaC.enc) a b (unW l a b)) ⟨⟨by omega, by simp; omega⟩, ⟨rfl, ?_⟩, rfl⟩
    rw [ew]
    exact c122 hlw
def V5 : Specs := V4.set 120 und120G
theorem V5_ok : Ok V5 := V4_ok.set h120
theorem specUnd {l : List Va} {s : P2} (h : unOk l s = true) : und120G [p2A s, .rptr [slA vaC 4 l]] = some (boolA (!(unW l (natOf s.1) (natOf s.2)))) := specAt2 (A := p2C) (B := rvC) (b := fun s l => unOk l s) (F := fun s l => boolA (!(unW l (natOf s.1) (natOf s.2)))) s l h
end Go.Vm.S6
