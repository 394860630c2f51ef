/- Two traces together. -/
import Derived.Test.YtbplbhcgcicgfaaGreatDoorS6VA
namespace Go.Vm.S6
open Go.Proofs Go.RowKit
set_option maxRecDepth 100000 in
theorem t60 (es fs cs ds gs hs : List AV) (a b e1 e2 i1 i2 : Int) (r1 r2 : P2) (o1 o2 : Bool) : evTreeD (CS V3) 60 60 [.rsl 4 es false, .rsl 4 fs false, .agg [intA a, intA b]] [.sp [.rsl 4 es false] (intA e1), .sp [.rsl 4 fs false] (intA e2), .br [] [.sp [.rsl 4 es false, fnV 135] (.rsl 1 cs false), .sp [.rsl 4 fs false, fnV 135] (.rsl 1 ds false), .sp [.rsl 1 cs false, .rsl 1 ds false, .agg [intA a, intA b]] (.tup [p2A r1, intA i1]), .sp [.rsl 4 es false, fnV 136] (.rsl 1 gs false), .sp [.rsl 4 fs false, fnV 136] (.rsl 1 hs false), .sp [.rsl 1 gs false, .rsl 1 hs false, .agg [intA a, intA b]] (.tup [p2A r2, intA i2]), .sp [.rsl 4 es false, fnV 137] (boolA o1), .sp [.rsl 4 fs false, fnV 137] (boolA o2)]] =
    (.need (([.rsl 4 es false] : List AV) = ([.rsl 4 es false] : List AV) ∧ (Cx.spec (CS V3) 59 ([.rsl 4 es false] : List AV)) = (some (AV.v (.int .i64 e1)))) (.need (([.rsl 4 fs false] : List AV) = ([.rsl 4 fs false] : List AV) ∧ (Cx.spec (CS V3) 59 ([.rsl 4 fs false] : List AV)) = (some (AV.v (.int .i64 e2)))) (bif firstM [e1, e2, whenM (Int.ofNat es.length != Int.ofNat fs.length) 2, limM (a, b)] != 0 then (.done (some (.tup [.agg [intA 0, intA 0, intA 0, intA 0, boolA false], intA (firstM [e1, e2, whenM (Int.ofNat es.length != Int.ofNat fs.length) 2, limM (a, b)])]))) else (.need (([.rsl 4 es false, .fn (Fn.func 135) [] []] : List AV) = ([.rsl 4 es false, .fn (Fn.func 135) [] []] : List AV) ∧ (Cx.spec (CS V3) 123 ([.rsl 4 es false, .fn (Fn.func 135) [] []] : List AV)) = (some (AV.rsl 1 cs false))) (.need (([.rsl 4 fs false, .fn (Fn.func 135) [] []] : List AV) = ([.rsl 4 fs false, .fn (Fn.func 135) [] []] : List AV) ∧ (Cx.spec (CS V3) 123 ([.rsl 4 fs false, .fn (Fn.func 135) [] []] : List AV)) = (some (AV.rsl 1 ds false))) (.need (([.rsl 1 cs false, .rsl 1 ds false, .agg [intA a, intA b]] : List AV) = ([.rsl 1 cs false, .rsl 1 ds false, .agg [intA a, intA b]] : List AV) ∧ (Cx.spec (CS V3) 112 ([.rsl 1 cs false, .rsl 1 ds false, .agg [intA a, intA b]] : List AV)) = (some (AV.tup [.agg [intA r1.fst, intA r1.snd], intA i1]))) (.need (([.rsl 4 es false, .fn (Fn.func 136) [] []] : List AV) = ([.rsl 4 es false, .fn (Fn.func 136) [] []] : List AV) ∧ (Cx.spec (CS V3) 123 ([.rsl 4 es false, .fn (Fn.func 136) [] []] : List AV)) = (some (AV.rsl 1 gs false))) (.need (([.rsl 4 fs false, .fn (Fn.func 136) [] []] : List AV) = ([.rsl 4 fs false, .fn (Fn.func 136) [] []] : List AV) ∧ (Cx.spec (CS V3) 123 ([.rsl 4 fs false, .fn (Fn.func 136) [] []] : List AV)) = (some (AV.rsl 1 hs false))) (.need (([.rsl 1 gs false, .rsl 1 hs false, .agg [intA a, intA b]] : List AV) = ([.rsl 1 gs false, .rsl 1 hs false, .agg [intA a, intA b]] : List AV) ∧ (Cx.spec (CS V3) 112 ([.rsl 1 gs false, .rsl 1 hs false, .agg [intA a, intA b]] : List AV)) = (some (AV.tup [.agg [intA r2.fst, intA r2.snd], intA i2]))) (.need (([.rsl 4 es false, .fn (Fn.func 137) [] []] : List AV) = ([.rsl 4 es false, .fn (Fn.func 137) [] []] : List AV) ∧ (Cx.spec (CS V3) 121 ([.rsl 4 es false, .fn (Fn.func 137) [] []] : List AV)) = (some (AV.v (.bool o1)))) (bif o1 then (.done (some (.tup [.agg [intA r1.fst, intA r1.snd, intA r2.fst, intA r2.snd, boolA true], intA 0]))) else (.need (([.rsl 4 fs false, .fn (Fn.func 137) [] []] : List AV) = ([.rsl 4 fs false, .fn (Fn.func 137) [] []] : List AV) ∧ (Cx.spec (CS V3) 121 ([.rsl 4 fs false, .fn (Fn.func 137) [] []] : List AV)) = (some (AV.v (.bool o2)))) (.done (some (.tup [.agg [intA r1.fst, intA r1.snd, intA r2.fst, intA r2.snd, boolA o2], intA 0]))))))))))))))) := by kernel_rfl
def Trc (l : List Va) : Prop := 1 ≤ l.length ∧ l.length ≤ 128 ∧ ∀ v ∈ l, (-16384 ≤ lowV v ∧ lowV v ≤ 16384) ∧ (-16384 ≤ highV v ∧ highV v ≤ 16384) ∧ lowV v ≤ highV v
theorem trcZ {l : List Va} (h : trcM l = 0) : Trc l := by
  unfold trcM at h
  rw [← firstB, firstZ, firstZ, manyZ, firstAll] at h
  obtain ⟨⟨h1, h2⟩, h3, _⟩ := h
  simp only [Int.ofNat_eq_natCast] at h1 h2
  refine ⟨by omega, by omega, fun v hv => ?_⟩
  have h4 := h3 v hv
  unfold vchk unitM at h4
  rw [firstZ, firstZ, firstZ, within_zero, within_zero] at h4
  have := whenZ (by omega) h4.2.2.1
  simp only [decide_eq_false_iff_not] at this
  exact ⟨h4.1, h4.2.1, by omega⟩
theorem least_bd {v : Va} (h : (-16384 ≤ lowV v ∧ lowV v ≤ 16384) ∧ (-16384 ≤ highV v ∧ highV v ≤ 16384) ∧ lowV v ≤ highV v) : 0 ≤ leastV v ∧ leastV v ≤ 16384 := by
  unfold leastV absN mx
  rw [wrap_in (n := 0 - highV v) (by omega) (by omega)]
  cases underV v <;> cases overV v <;> simp only [cond_true, cond_false]
  · split <;> split at * <;> omega
  · split <;> omega
  · split <;> omega
  · omega
theorem most_bd {v : Va} (h : (-16384 ≤ lowV v ∧ lowV v ≤ 16384) ∧ (-16384 ≤ highV v ∧ highV v ≤ 16384) ∧ lowV v ≤ highV v) : 0 ≤ mostV v ∧ mostV v ≤ 16384 := by
  unfold mostV absN mx
  rw [wrap_in (n := 0 - lowV v) (by omega) (by omega)]
  split <;> omega
abbrev VP : Type := Va × Va
def numV (g : Va → Int) (k : P2) (p : VP) : Int := numK k (g p.1, g p.2)
def trOk (l m : List Va) (k : P2) : Bool := trcM l == 0 && (trcM m == 0 && (l.length == m.length && limM k == 0))
theorem trOk_at {l m : List Va} {k : P2} (h : trOk l m k = true) : Trc l ∧ Trc m ∧ l.length = m.length ∧ limM k = 0 := by
  unfold trOk at h
  simp only [Bool.and_eq_true, beq_iff_eq] at h
  exact ⟨trcZ h.1, trcZ h.2.1, h.2.2.1, h.2.2.2⟩
theorem bndV {l m : List Va} {g : Va → Int} (hg : ∀ v, ((-16384 ≤ lowV v ∧ lowV v ≤ 16384) ∧ (-16384 ≤ highV v ∧ highV v ≤ 16384) ∧ lowV v ≤ highV v) → 0 ≤ g v ∧ g v ≤ 16384) (hl : Trc l) (hm : Trc m) {p : VP} (hp : p ∈ l.zip m) : Bnd (g p.1, g p.2) := by
  have h1 := List.of_mem_zip (show (p.1, p.2) ∈ l.zip m from hp)
  exact ⟨hg _ (hl.2.2 _ h1.1), hg _ (hm.2.2 _ h1.2)⟩
def bd5 (x y : P2) (o : Bool) : AV := .agg [intA x.1, intA x.2, intA y.1, intA y.2, boolA o]
def cbV (g : Va → Int) (l m : List Va) (k : P2) : P2 := lowM (mostP ((l.zip m).map (numV g k)) 0 (-1, 0)).1 (k.1 * k.2)
def jErr (l m : List Va) (k : P2) : Int := firstM [trcM l, trcM m, whenM (Int.ofNat l.length != Int.ofNat m.length) 2, limM k]
theorem jErrZ {l m : List Va} {k : P2} (h : jErr l m k = 0) : trOk l m k = true := by
  unfold jErr at h
  rw [firstZ, firstZ, firstZ, firstZ] at h
  have := whenLen (by omega) h.2.2.1
  unfold trOk
  rw [h.1, h.2.1, this, h.2.2.2.1]; simp
abbrev Bd5 : Type := P2 × P2 × Bool
def cbB (l m : List Va) (k : P2) : Bd5 := (cbV leastV l m k, cbV mostV l m k, l.any anyV || m.any anyV)
def bdA (x : Bd5) : AV := bd5 x.1 x.2.1 x.2.2
def zB : Bd5 := ((0, 0), (0, 0), false)
def pjbM (l m : List Va) (k : P2) : AV := .tup [bdA (bif jErr l m k == 0 then cbB l m k else zB), intA (jErr l m k)]
def pjbG : List AV → Option AV := sp3 vasC vasC p2C fun l m k => bif Nat.ble l.length lim && Nat.ble m.length lim then some (pjbM l m k) else none
theorem specTrc {l : List Va} (h : Nat.ble l.length lim = true) : trcG [slA vaC 4 l] = some (intA (trcM l)) := by
  have h1 := sp1_at (A := vasC) (F := fun l => bif Nat.ble l.length lim then some (intA (trcM l)) else none) l
  rw [h] at h1; exact h1
theorem comV {g : Va → Int} {l m : List Va} {k : P2} (hg : ∀ v, ((-16384 ≤ lowV v ∧ lowV v ≤ 16384) ∧ (-16384 ≤ highV v ∧ highV v ≤ 16384) ∧ lowV v ≤ highV v) → 0 ≤ g v ∧ g v ≤ 16384) (h : trOk l m k = true) :
    combG [slA intC 1 (l.map g), slA intC 1 (m.map g), p2A k] = some (.tup [p2A (cbV g l m k), intA (mostP ((l.zip m).map (numV g k)) 0 (-1, 0)).2]) := by
  obtain ⟨hsl, hsm, hlm, hk⟩ := trOk_at h
  have hz : (l.map g).zip (m.map g) = (l.zip m).map fun p => (g p.1, g p.2) := by rw [List.zip_map]; rfl
  have hco : (combOk (l.map g) (m.map g) k && !(l.map g).isEmpty) = true := by
    have h1 : (l.map g).isEmpty = false := by
      cases l with
      | nil => exact absurd hsl.1 (by simp)
      | cons => rfl
    rw [h1]
    unfold combOk
    simp only [Bool.and_eq_true, beq_iff_eq, List.all_eq_true, List.length_map, Bool.not_false, and_true]
    refine ⟨hk, hlm, Nat.ble_eq_true_of_le hsl.2.1, fun p hp => ?_⟩
    rw [hz, List.mem_map] at hp
    obtain ⟨q, hq, rfl⟩ := hp
    exact bndB_iff.2 (bndV hg hsl hsm hq)
  have hs := specComb hco
  rw [hz] at hs
  unfold combM at hs
  rw [List.map_map] at hs
  exact hs
theorem h60 : Holds 60 pjbG := holds3 fun l m k r hr => by
  cases hb : Nat.ble l.length lim && Nat.ble m.length lim with
  | false => simp [hb] at hr
  | true =>
    simp only [hb, cond_true, Option.some.injEq] at hr; subst hr
    rw [Bool.and_eq_true] at hb
    have ht := t60 (l.map vaC.enc) (m.map vaC.enc) ((l.map leastV).map intA) ((m.map leastV).map intA) ((l.map mostV).map intA) ((m.map mostV).map intA) k.1 k.2 (trcM l) (trcM m) (mostP ((l.zip m).map (numV leastV k)) 0 (-1, 0)).2 (mostP ((l.zip m).map (numV mostV k)) 0 (-1, 0)).2 (cbV leastV l m k) (cbV mostV l m k) (l.any anyV) (m.any anyV)
    rw [e_len', e_len', show firstM [trcM l, trcM m, whenM (Int.ofNat l.length != Int.ofNat m.length) 2, limM (k.1, k.2)] = jErr l m k from rfl, bnz] at ht
    unfold pjbM
    cases hq : jErr l m k == 0 with
    | false => rw [hq] at ht; exact V3_ok.tr ht ⟨⟨rfl, specTrc hb.1⟩, ⟨rfl, specTrc hb.2⟩, rfl⟩
    | true =>
      rw [hq] at ht
      have h0 : jErr l m k = 0 := by simpa using hq
      have hok := jErrZ h0
      rw [h0]
      refine V3_ok.tr ht ⟨⟨rfl, specTrc hb.1⟩, ⟨rfl, specTrc hb.2⟩, ⟨rfl, s135 hb.1⟩, ⟨rfl, s135 hb.2⟩, ⟨rfl, comV (fun v => least_bd) hok⟩, ⟨rfl, s136 hb.1⟩, ⟨rfl, s136 hb.2⟩, ⟨rfl, comV (fun v => most_bd) hok⟩, ⟨rfl, c137 hb.1⟩, ?_⟩
      unfold cbB
      cases ha : l.any anyV with
      | true => rfl
      | false => exact ⟨⟨rfl, c137 hb.2⟩, rfl⟩
def V4 : Specs := (V3.set 60 pjbG)
theorem V4_ok : Ok V4 := (V3_ok.set h60)
end Go.Vm.S6

namespace Go.Vm.S6
open Go.Proofs Go.RowKit
theorem Weak.rptr {cs cs' : List AV} (h : WeakL cs cs') : Weak (.rptr cs) (.rptr cs') := fun M y hr => by
  unfold Rep at hr ⊢
  obtain ⟨b, o, l, e, k, r⟩ := hr
  exact ⟨b, o, l, e, h _ _ k, r⟩
theorem Weak.fnc {f : Fn} {xs bs bs' : List AV} (h : WeakL bs bs') : Weak (.fn f xs bs) (.fn f xs bs') := fun M y hr => by
  unfold Rep at hr ⊢
  obtain ⟨l, c, e, k, r⟩ := hr
  exact ⟨l, c, e, k, h _ _ r⟩
/-- A captured trace. -/
def rvC : Cod (List Va) where
  dec | .rptr [a] => vasC.dec a
      | _ => none
  enc l := .rptr [slA vaC 4 l]
  weak a x h := by
    split at h
    · exact Weak.rptr (WeakL.cons (vasC.weak _ _ h) WeakL.nil)
    · cases h
  rt x := vasC.rt x
def clA (es : List AV) : AV := .fn (.func 120) [] [.rptr [.rsl 4 es false]]
def clC : Cod (List Va) where
  dec | .fn (.func g) [] [.rptr [a]] => bif Nat.beq g 120 then vasC.dec a else none
      | _ => none
  enc l := clA (l.map vaC.enc)
  weak a x h := by
    split at h
    · rename_i g a'
      cases hb : Nat.beq g 120 with
      | false => rw [hb] at h; cases h
      | true =>
        rw [hb] at h
        rw [Nat.eq_of_beq_eq_true hb]
        exact Weak.fnc (WeakL.cons (Weak.rptr (WeakL.cons (vasC.weak _ _ h) WeakL.nil)) WeakL.nil)
    · cases h
  rt x := vasC.rt x
end Go.Vm.S6

namespace Go.Vm.S6
open Go.Proofs Go.RowKit
set_option maxRecDepth 100000 in
theorem t120 (es : List AV) (a b : Nat) (w : Bool) : evTreeD (CS V4) 60 120 [.agg [intA (Int.ofNat a), intA (Int.ofNat b)], .rptr [.rsl 4 es false]] [.chk [], .sp [.rsl 4 ((es.drop a).take (b - a)) false, fnV 122] (boolA w)] =
    (.need (a ≤ b ∧ b ≤ es.length) (.need (([.rsl 4 (List.take (b - a) (List.drop a es)) false, .fn (Fn.func 122) [] []] : List AV) = ([.rsl 4 (List.take (b - a) (List.drop a es)) false, .fn (Fn.func 122) [] []] : List AV) ∧ (Cx.spec (CS V4) 121 ([.rsl 4 (List.take (b - a) (List.drop a es)) false, .fn (Fn.func 122) [] []] : List AV)) = (some (AV.v (.bool w)))) (.done (some (boolA !w))))) := by kernel_rfl
def und120G : List AV → Option AV := sp2 p2C rvC fun s l => bif unOk l s then some (boolA (!(unW l (natOf s.1) (natOf s.2)))) else none
theorem h120 : Holds 120 und120G := holds2 fun s l r hr => by
  cases hb : unOk l s with
  | false => simp [hb] at hr
  | true =>
    simp only [hb, cond_true, Option.some.injEq] at hr; subst hr
    unfold unOk at hb
    simp only [Bool.and_eq_true, beq_iff_eq] at hb
    obtain ⟨a, b, rfl, hab⟩ := winZ hb.2
    have hl := Nat.le_of_ble_eq_true hb.1
    have ew : ((l.map vaC.enc).drop a).take (b - a) = ((l.drop a).take (b - a)).map vaC.enc := by rw [List.map_take, List.map_drop]
    have hlw : Nat.ble ((l.drop a).take (b - a)).length lim = true := Nat.ble_eq_true_of_le (by simp; omega)
    refine V4_ok.tr (t120 (l.map vaC.enc) a b (unW l a b)) ⟨⟨by omega, by simp; omega⟩, ⟨rfl, ?_⟩, rfl⟩
    rw [ew]
    exact c122 hlw
def V5 : Specs := (V4.set 120 und120G)
theorem V5_ok : Ok V5 := (V4_ok.set h120)
theorem specUnd {l : List Va} {s : P2} (h : unOk l s = true) : und120G [p2A s, .rptr [slA vaC 4 l]] = some (boolA (!(unW l (natOf s.1) (natOf s.2)))) := specAt2 (A := p2C) (B := rvC) (b := fun s l => unOk l s) (F := fun s l => boolA (!(unW l (natOf s.1) (natOf s.2)))) s l h
end Go.Vm.S6
