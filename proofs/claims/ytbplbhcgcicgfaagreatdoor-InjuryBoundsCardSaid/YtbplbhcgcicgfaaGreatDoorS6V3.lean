/- Traces: marks, checks. -/
import Derived.Test.YtbplbhcgcicgfaaGreatDoorS6V2
namespace Go.Vm.S6
open Go.Proofs Go.RowKit
set_option maxRecDepth 100000 in
theorem t121 (es : List AV) (f : Nat) (m : Int) : evTreeD (CS V2) 60 121 [.rsl 4 es false, fnV f] [.sp [.rsl 4 es false, fnV f] (intA m)] =
    (.need (([.rsl 4 es false, .fn (Fn.func f) [] []] : List AV) = ([.rsl 4 es false, .fn (Fn.func f) [] []] : List AV) ∧ (Cx.spec (CS V2) 163 ([.rsl 4 es false, .fn (Fn.func f) [] []] : List AV)) = (some (AV.v (.int .i64 m)))) (.done (some (.v (.bool (decide (m ≥ 0))))))) := by kernel_rfl
set_option maxRecDepth 100000 in
theorem t59 (es cs : List AV) (e : Int) : evTreeD (CS V2) 60 59 [.rsl 4 es false] [.sp [intA (Int.ofNat es.length), intA 128] (intA (manyI (Int.ofNat es.length) 128)), .sp [.rsl 4 es false, fnV 134] (.rsl 1 cs false), .sp [.rsl 1 cs false] (intA e)] =
    (.need (([.v (.int .i64 (Int.ofNat es.length)), .v (.int .i64 128)] : List AV) = ([.v (.int .i64 (Int.ofNat es.length)), .v (.int .i64 128)] : List AV) ∧ (Cx.spec (CS V2) 109 ([.v (.int .i64 (Int.ofNat es.length)), .v (.int .i64 128)] : List AV)) = (some (AV.v (.int .i64 (manyI (Int.ofNat es.length) 128))))) (.need (([.rsl 4 es false, .fn (Fn.func 134) [] []] : List AV) = ([.rsl 4 es false, .fn (Fn.func 134) [] []] : List AV) ∧ (Cx.spec (CS V2) 133 ([.rsl 4 es false, .fn (Fn.func 134) [] []] : List AV)) = (some (AV.rsl 1 cs false))) (.need (([.rsl 1 cs false] : List AV) = ([.rsl 1 cs false] : List AV) ∧ (Cx.spec (CS V2) 95 ([.rsl 1 cs false] : List AV)) = (some (AV.v (.int .i64 e)))) (.done (some (.v (.int .i64 (firstM [manyI (Int.ofNat es.length) 128, e])))))))) := by kernel_rfl
def cV (f : FuncId) (p : Va → Bool) : List AV → Option AV := sp2 vasC (fnC f) fun l _ => bif Nat.ble l.length lim then some (boolA (l.any p)) else none
theorem cont_ok {f : FuncId} {p : Va → Bool} (hs : ∀ {l : List Va}, Nat.ble l.length lim = true → i163G [slA vaC 4 l, fnV f] = some (intA (idxM p l))) : Holds 121 (cV f p) := holds2 fun l _ r hr => by
  cases hb : Nat.ble l.length lim with
  | false => simp [hb] at hr
  | true =>
    simp only [hb, cond_true, Option.some.injEq] at hr; subst hr
    rw [← idx_any p l 0]
    exact V2_ok.tr (t121 (l.map vaC.enc) f (idxM p l)) ⟨⟨rfl, hs hb⟩, rfl⟩
def c121G : List AV → Option AV := orG (cV 122 underV) (orG (cV 126 overV) (cV 137 anyV))
theorem h121 : Holds 121 c121G := holds_or (cont_ok i122) (holds_or (cont_ok i126) (cont_ok i137))
theorem specCV {f : FuncId} {p : Va → Bool} {l : List Va} (h : Nat.ble l.length lim = true) : cV f p [slA vaC 4 l, fnV f] = some (boolA (l.any p)) := by
  have h1 := sp2_at (A := vasC) (B := fnC f) (F := fun l _ => bif Nat.ble l.length lim then some (boolA (l.any p)) else none) l ()
  rw [h] at h1; exact h1
theorem c122 {l : List Va} (h : Nat.ble l.length lim = true) : c121G [slA vaC 4 l, fnV 122] = some (boolA (l.any underV)) := or_l (specCV h)
theorem c126 {l : List Va} (h : Nat.ble l.length lim = true) : c121G [slA vaC 4 l, fnV 126] = some (boolA (l.any overV)) := or_r (fn_ne rfl) (or_l (specCV h))
theorem c137 {l : List Va} (h : Nat.ble l.length lim = true) : c121G [slA vaC 4 l, fnV 137] = some (boolA (l.any anyV)) := or_r (fn_ne rfl) (or_r (fn_ne rfl) (specCV h))
theorem h59 : Holds 59 trcG := holds1 fun l r hr => by
  cases hb : Nat.ble l.length lim with
  | false => simp [hb] at hr
  | true =>
    simp only [hb, cond_true, Option.some.injEq] at hr; subst hr
    refine V2_ok.tr (t59 (l.map vaC.enc) ((l.map vchk).map intA) (firstM (l.map vchk))) ?_
    rw [e_len']
    refine ⟨⟨rfl, specMany _ _⟩, ⟨rfl, specMV hb⟩, ⟨rfl, specFirst (by rw [List.length_map]; exact hb)⟩, ?_⟩
    rw [firstB]; rfl
def V3 : Specs := (V2.set 121 c121G).set 59 trcG
theorem V3_ok : Ok V3 := (V2_ok.set h121).set h59
end Go.Vm.S6
