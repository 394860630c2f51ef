/- Bounds of a trace. -/
import Derived.Test.YtbplbhcgcicgfaaGreatDoorS6V7
namespace Go.Vm.S6
open Go.Proofs Go.RowKit
set_option maxRecDepth 100000 in
theorem t53 (es ls hs : List AV) (lo hi e : Int) (st st2 : BW) (o : Bool) : evTreeD (CS V6) 60 53 [.rsl 4 es false, .agg [intA lo, intA hi]] [.sp [.rsl 4 es false] (intA e), .br [] [.sp [.rsl 4 es false, fnV 124] (.rsl 1 ls false), .sp [.rsl 1 ls false, .agg [intA lo, intA hi], clA es] (bwA st), .sp [.rsl 4 es false, fnV 125] (.rsl 1 hs false), .sp [.rsl 1 hs false, .agg [intA lo, intA hi], fnV 100] (bwA st2), .br [.sp [.rsl 4 es false, fnV 126] (boolA o)] [.sp [.rsl 4 es false, fnV 126] (boolA o)]]] =
    (.need (([.rsl 4 es false] : List AV) = ([.rsl 4 es false] : List AV) ∧ (Cx.spec (CS V6) 59 ([.rsl 4 es false] : List AV)) = (some (AV.v (.int .i64 e)))) (bif firstM [e, lenM (lo, hi), whenM (decide (Int.ofNat es.length < lo)) 16] != 0 then (.done (some (.tup [.agg [intA 0, intA 0, intA 0, intA 0, boolA false], intA (firstM [e, lenM (lo, hi), whenM (decide (Int.ofNat es.length < lo)) 16])]))) else (.need (([.rsl 4 es false, .fn (Fn.func 124) [] []] : List AV) = ([.rsl 4 es false, .fn (Fn.func 124) [] []] : List AV) ∧ (Cx.spec (CS V6) 123 ([.rsl 4 es false, .fn (Fn.func 124) [] []] : List AV)) = (some (AV.rsl 1 ls false))) (.need (([.rsl 1 ls false, .agg [intA lo, intA hi], .fn (Fn.func 120) [] [.rptr [.rsl 4 es false]]] : List AV) = ([.rsl 1 ls false, .agg [intA lo, intA hi], .fn (Fn.func 120) [] [.rptr [.rsl 4 es false]]] : List AV) ∧ (Cx.spec (CS V6) 99 ([.rsl 1 ls false, .agg [intA lo, intA hi], .fn (Fn.func 120) [] [.rptr [.rsl 4 es false]]] : List AV)) = (some (AV.tup [.agg [intA st.snd.fst.fst, intA st.snd.fst.snd, intA st.snd.snd.fst, intA st.snd.snd.snd], boolA st.fst]))) (.need (([.rsl 4 es false, .fn (Fn.func 125) [] []] : List AV) = ([.rsl 4 es false, .fn (Fn.func 125) [] []] : List AV) ∧ (Cx.spec (CS V6) 123 ([.rsl 4 es false, .fn (Fn.func 125) [] []] : List AV)) = (some (AV.rsl 1 hs false))) (.need (([.rsl 1 hs false, .agg [intA lo, intA hi], .fn (Fn.func 100) [] []] : List AV) = ([.rsl 1 hs false, .agg [intA lo, intA hi], .fn (Fn.func 100) [] []] : List AV) ∧ (Cx.spec (CS V6) 99 ([.rsl 1 hs false, .agg [intA lo, intA hi], .fn (Fn.func 100) [] []] : List AV)) = (some (AV.tup [.agg [intA st2.snd.fst.fst, intA st2.snd.fst.snd, intA st2.snd.snd.fst, intA st2.snd.snd.snd], boolA st2.fst]))) (bif !st.fst then (.need (([.rsl 4 es false, .fn (Fn.func 126) [] []] : List AV) = ([.rsl 4 es false, .fn (Fn.func 126) [] []] : List AV) ∧ (Cx.spec (CS V6) 121 ([.rsl 4 es false, .fn (Fn.func 126) [] []] : List AV)) = (some (AV.v (.bool o)))) (.done (some (.tup [.agg [intA 0, intA 1, intA st2.snd.snd.fst, intA st2.snd.snd.snd, boolA o], intA 0])))) else (.need (([.rsl 4 es false, .fn (Fn.func 126) [] []] : List AV) = ([.rsl 4 es false, .fn (Fn.func 126) [] []] : List AV) ∧ (Cx.spec (CS V6) 121 ([.rsl 4 es false, .fn (Fn.func 126) [] []] : List AV)) = (some (AV.v (.bool o)))) (.done (some (.tup [.agg [intA st.snd.snd.fst, intA st.snd.snd.snd, intA st2.snd.snd.fst, intA st2.snd.snd.snd, boolA o], intA 0]))))))))))) := by kernel_rfl
set_option maxRecDepth 100000 in
theorem t55 (es zs hs : List AV) (k e m1 m2 a1 b1 a2 b2 : Int) (o : Bool) : evTreeD (CS V6) 60 55 [.rsl 4 es false, intA k] [.sp [.rsl 4 es false] (intA e), .br [] [.sp [.rsl 4 es false, fnV 127] (.rsl 1 zs false), .sp [.rsl 1 zs false, intA k] (.tup [intA m1, .agg [intA a1, intA b1]]), .sp [.rsl 4 es false, fnV 125] (.rsl 1 hs false), .sp [.rsl 1 hs false, intA k] (.tup [intA m2, .agg [intA a2, intA b2]]), .sp [intA (mx m1 0)] (p2A (mx m1 0, 1)), .sp [intA (mx m2 0)] (p2A (mx m2 0, 1)), .sp [.rsl 4 es false, fnV 126] (boolA o)]] =
    (.need (([.rsl 4 es false] : List AV) = ([.rsl 4 es false] : List AV) ∧ (Cx.spec (CS V6) 59 ([.rsl 4 es false] : List AV)) = (some (AV.v (.int .i64 e)))) (bif firstM [e, cntM k, whenM (decide (Int.ofNat es.length < k)) 16] != 0 then (.done (some (.tup [.agg [intA 0, intA 0, intA 0, intA 0, boolA false], intA (firstM [e, cntM k, whenM (decide (Int.ofNat es.length < k)) 16])]))) else (.need (([.rsl 4 es false, .fn (Fn.func 127) [] []] : List AV) = ([.rsl 4 es false, .fn (Fn.func 127) [] []] : List AV) ∧ (Cx.spec (CS V6) 123 ([.rsl 4 es false, .fn (Fn.func 127) [] []] : List AV)) = (some (AV.rsl 1 zs false))) (.need (([.rsl 1 zs false, intA k] : List AV) = ([.rsl 1 zs false, intA k] : List AV) ∧ (Cx.spec (CS V6) 108 ([.rsl 1 zs false, intA k] : List AV)) = (some (AV.tup [intA m1, .agg [intA a1, intA b1]]))) (.need (([.rsl 4 es false, .fn (Fn.func 125) [] []] : List AV) = ([.rsl 4 es false, .fn (Fn.func 125) [] []] : List AV) ∧ (Cx.spec (CS V6) 123 ([.rsl 4 es false, .fn (Fn.func 125) [] []] : List AV)) = (some (AV.rsl 1 hs false))) (.need (([.rsl 1 hs false, intA k] : List AV) = ([.rsl 1 hs false, intA k] : List AV) ∧ (Cx.spec (CS V6) 108 ([.rsl 1 hs false, intA k] : List AV)) = (some (AV.tup [intA m2, .agg [intA a2, intA b2]]))) (.need (([intA (if m1 > 0 then m1 else 0)] : List AV) = ([intA (mx m1 0)] : List AV) ∧ (Cx.spec (CS V6) 128 ([intA (mx m1 0)] : List AV)) = (some (AV.agg [intA (mx m1 0), intA 1]))) (.need (([intA (if m2 > 0 then m2 else 0)] : List AV) = ([intA (mx m2 0)] : List AV) ∧ (Cx.spec (CS V6) 128 ([intA (mx m2 0)] : List AV)) = (some (AV.agg [intA (mx m2 0), intA 1]))) (.need (([.rsl 4 es false, .fn (Fn.func 126) [] []] : List AV) = ([.rsl 4 es false, .fn (Fn.func 126) [] []] : List AV) ∧ (Cx.spec (CS V6) 121 ([.rsl 4 es false, .fn (Fn.func 126) [] []] : List AV)) = (some (AV.v (.bool o)))) (.done (some (.tup [.agg [intA (mx m1 0), intA 1, intA (mx m2 0), intA 1, boolA o], intA 0])))))))))))) := by kernel_rfl
theorem serF {l : List Va} {g : Va → Int} (h : Trc l) (hg : ∀ v ∈ l, -16384 ≤ g v ∧ g v ≤ 16384) : Ser (l.map g) := by
  refine ⟨by rw [List.length_map]; exact h.1, by rw [List.length_map]; exact h.2.1, fun x hx => ?_⟩
  rw [List.mem_map] at hx
  obtain ⟨v, hv, rfl⟩ := hx
  exact hg v hv
theorem serLow {l : List Va} (h : Trc l) : Ser (l.map lowV) := serF h fun v hv => (h.2.2 v hv).1
theorem serHigh {l : List Va} (h : Trc l) : Ser (l.map highV) := serF h fun v hv => (h.2.2 v hv).2.1
theorem serAdj {l : List Va} (h : Trc l) : Ser (l.map adjV) := serF h fun v hv => by
  have := (h.2.2 v hv).1
  unfold adjV
  cases underV v with
  | true => exact ⟨by simp, by simp⟩
  | false => exact this
theorem bwOf {l : List Int} {k : P2} (h : Ser l) (hk : lenM k = 0) : bwOk l k = true := by
  unfold bwOk
  rw [seriesZ.2 h, hk]; rfl
theorem orB {l : List Int} {k : P2} (h : bwOk l k = true) : orG bestG bestCG [slA intC 1 l, p2A k, fnV 100] = some (bwA (bestB l k)) := or_l (specBest h)
theorem orC {l : List Int} {k : P2} {tr : List Va} (h : bwOk l k = true) (ht : tr.length = l.length) : orG bestG bestCG [slA intC 1 l, p2A k, clA (tr.map vaC.enc)] = some (bwA (bestM (isU tr) l (natOf k.1) (natOf k.2))) := by
  refine or_r ?_ (specAt3 (A := intsC) (B := p2C) (D := clC) (b := fun l k tr => bwOk l k && tr.length == l.length) (F := fun l k tr => bwA (bestM (isU tr) l (natOf k.1) (natOf k.2))) l k tr (by rw [h, ht, beq_self_eq_true]; rfl))
  have hd : (fnC 100).dec (clA (tr.map vaC.enc)) = none := rfl
  simp only [bestG, sp3, hd]
  cases intsC.dec (slA intC 1 l) <;> cases p2C.dec (p2A k) <;> rfl
def tErr (l : List Va) (k : P2) : Int := firstM [trcM l, lenM k, whenM (decide (Int.ofNat l.length < k.1)) 16]
def bbM (l : List Va) (k : P2) : Bd5 := (lowOf (bestM (isU l) (l.map lowV) (natOf k.1) (natOf k.2)), (bestB (l.map highV) k).2.2, anyO l)
def pbbM (l : List Va) (k : P2) : AV := .tup [bdA (bif tErr l k == 0 then bbM l k else zB), intA (tErr l k)]
def pbbG : List AV → Option AV := sp2 vasC p2C fun l k => bif Nat.ble l.length lim then some (pbbM l k) else none
theorem h53 : Holds 53 pbbG := holds2 fun l k r hr => by
  cases hb : Nat.ble l.length lim with
  | false => simp [hb] at hr
  | true =>
    simp only [hb, cond_true, Option.some.injEq] at hr; subst hr
    have ht := t53 (l.map vaC.enc) ((l.map lowV).map intA) ((l.map highV).map intA) k.1 k.2 (trcM l) (bestM (isU l) (l.map lowV) (natOf k.1) (natOf k.2)) (bestB (l.map highV) k) (anyO l)
    rw [e_len', show firstM [trcM l, lenM (k.1, k.2), whenM (decide (Int.ofNat l.length < k.1)) 16] = tErr l k from rfl, bnz] at ht
    unfold pbbM
    cases hq : tErr l k == 0 with
    | false => rw [hq] at ht; exact V6_ok.tr ht ⟨⟨rfl, specTrc hb⟩, rfl⟩
    | true =>
      rw [hq] at ht
      have h0 : tErr l k = 0 := by simpa using hq
      rw [h0]
      unfold tErr at h0
      rw [firstZ, firstZ] at h0
      have htr := trcZ h0.1
      refine V6_ok.tr ht ⟨⟨rfl, specTrc hb⟩, ⟨rfl, s124 hb⟩, ⟨rfl, orC (bwOf (serLow htr) h0.2.1) (by rw [List.length_map])⟩, ⟨rfl, s125 hb⟩, ⟨rfl, orB (bwOf (serHigh htr) h0.2.1)⟩, ?_⟩
      unfold bbM
      generalize bestM (isU l) (l.map lowV) (natOf k.1) (natOf k.2) = st
      obtain ⟨o, sp, ra⟩ := st
      cases o with
      | true => exact ⟨⟨rfl, c126 hb⟩, rfl⟩
      | false => exact ⟨⟨rfl, c126 hb⟩, rfl⟩
/-! ### Held bounds -/
def hbErr (l : List Va) (k : Int) : Int := firstM [trcM l, cntM k, whenM (decide (Int.ofNat l.length < k)) 16]
def hbM (l : List Va) (k : Int) : Bd5 := ((mx (heldP (l.map adjV) (natOf k)).1 0, 1), (mx (heldP (l.map highV) (natOf k)).1 0, 1), anyO l)
def phbM (l : List Va) (k : Int) : AV := .tup [bdA (bif hbErr l k == 0 then hbM l k else zB), intA (hbErr l k)]
def phbG : List AV → Option AV := sp2 vasC intC fun l k => bif Nat.ble l.length lim then some (phbM l k) else none
theorem heldOf {l : List Va} {g : Va → Int} {k : Int} (h : Ser (l.map g)) (hk : cntM k = 0) (hl : whenM (decide (Int.ofNat l.length < k)) 16 = 0) : heldOk (l.map g) k = true := by
  unfold cntM at hk
  rw [within_zero] at hk
  have := whenZ (by omega) hl
  simp only [decide_eq_false_iff_not, Int.ofNat_eq_natCast] at this
  unfold heldOk
  rw [seriesZ.2 h, List.length_map]
  simp; omega
theorem h55 : Holds 55 phbG := holds2 fun l k r hr => by
  cases hb : Nat.ble l.length lim with
  | false => simp [hb] at hr
  | true =>
    simp only [hb, cond_true, Option.some.injEq] at hr; subst hr
    have ht := t55 (l.map vaC.enc) ((l.map adjV).map intA) ((l.map highV).map intA) k (trcM l) (heldP (l.map adjV) (natOf k)).1 (heldP (l.map highV) (natOf k)).1 (heldP (l.map adjV) (natOf k)).2 ((heldP (l.map adjV) (natOf k)).2 + k) (heldP (l.map highV) (natOf k)).2 ((heldP (l.map highV) (natOf k)).2 + k) (anyO l)
    rw [e_len', show firstM [trcM l, cntM k, whenM (decide (Int.ofNat l.length < k)) 16] = hbErr l k from rfl, bnz] at ht
    unfold phbM
    cases hq : hbErr l k == 0 with
    | false => rw [hq] at ht; exact V6_ok.tr ht ⟨⟨rfl, specTrc hb⟩, rfl⟩
    | true =>
      rw [hq] at ht
      have h0 : hbErr l k = 0 := by simpa using hq
      rw [h0]
      unfold hbErr at h0
      rw [firstZ, firstZ, firstZ] at h0
      have htr := trcZ h0.1
      have fw : ∀ n : Int, wholeG [intA n] = some (p2A (n, 1)) := fun n => sp1_at (A := intC) (F := fun n => some (p2A (n, 1))) n
      exact V6_ok.tr ht ⟨⟨rfl, specTrc hb⟩, ⟨rfl, s127 hb⟩, ⟨rfl, specHeld (heldOf (serAdj htr) h0.2.1 h0.2.2.1)⟩, ⟨rfl, s125 hb⟩, ⟨rfl, specHeld (heldOf (serHigh htr) h0.2.1 h0.2.2.1)⟩, ⟨rfl, fw _⟩, ⟨rfl, fw _⟩, ⟨rfl, c126 hb⟩, rfl⟩
/-! ### The reference's bounds -/
/-! ### The reference's held bounds -/
def V8 : Specs := ((V6.set 53 pbbG).set 55 phbG)
theorem V8_ok : Ok V8 := ((V6_ok.set h53).set h55)
end Go.Vm.S6
