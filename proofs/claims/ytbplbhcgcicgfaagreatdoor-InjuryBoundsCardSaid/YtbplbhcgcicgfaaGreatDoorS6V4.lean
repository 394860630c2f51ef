/- Two traces together. -/
import Derived.Test.YtbplbhcgcicgfaaGreatDoorS6V3
namespace Go.Vm.S6
open Go.Proofs Go.RowKit
def Trc (l : List Va) : Prop := 1 ≤ l.length ∧ l.length ≤ 128 ∧ ∀ v ∈ l, (-16384 ≤ lowV v ∧ lowV v ≤ 16384) ∧ (-16384 ≤ highV v ∧ highV v ≤ 16384) ∧ lowV v ≤ highV v
theorem trcZ {l : List Va} (h : trcM l = 0) : Trc l := by
  unfold trcM at h
  rw [← firstB, firstZ, firstZ, manyZ, firstAll] at h
  obtain ⟨⟨h1, h2⟩, h3, _⟩ := h
  simp only [Int.ofNat_eq_natCast] at h1 h2
  refine ⟨by omega, by omega, fun v hv => ?_⟩
  have h4 := h3 v hv
  unfold vchk unitM at h4
  rw [firstZ, firstZ, firstZ, within_zero, within_zero] at h4
  have := whenZ (by omega) h4.2.2.1
  simp only [decide_eq_false_iff_not] at this
  exact ⟨h4.1, h4.2.1, by omega⟩
theorem least_bd {v : Va} (h : (-16384 ≤ lowV v ∧ lowV v ≤ 16384) ∧ (-16384 ≤ highV v ∧ highV v ≤ 16384) ∧ lowV v ≤ highV v) : 0 ≤ leastV v ∧ leastV v ≤ 16384 := by
  unfold leastV absN mx
  rw [wrap_in (n := 0 - highV v) (by omega) (by omega)]
  cases underV v <;> cases overV v <;> simp only [cond_true, cond_false]
  · split <;> split at * <;> omega
  · split <;> omega
  · split <;> omega
  · omega
theorem most_bd {v : Va} (h : (-16384 ≤ lowV v ∧ lowV v ≤ 16384) ∧ (-16384 ≤ highV v ∧ highV v ≤ 16384) ∧ lowV v ≤ highV v) : 0 ≤ mostV v ∧ mostV v ≤ 16384 := by
  unfold mostV absN mx
  rw [wrap_in (n := 0 - lowV v) (by omega) (by omega)]
  split <;> omega
abbrev VP : Type := Va × Va
abbrev JS : Type := (Ra × Int) × (Ra × Int) × Bool
def numV (g : Va → Int) (k : P2) (p : VP) : Int := numK k (g p.1, g p.2)
def ratV (g : Va → Int) (k : P2) (i : Nat) (p : VP) (s : Ra × Int) : Ra × Int := bif (Nat.beq i 0) || decide (cmpM (lowM (numV g k p) (k.1 * k.2)) s.1 > 0) then (lowM (numV g k p) (k.1 * k.2), Int.ofNat i) else s
def markV (p : VP) : Bool := p.1.2.2.1 || (p.1.2.2.2 || (p.2.2.2.1 || p.2.2.2.2))
def jS (k : P2) (i : Nat) (p : VP) (s : JS) : JS := (ratV leastV k i p s.1, ratV mostV k i p s.2.1, s.2.2 || markV p)
theorem jS_eq (k : P2) : ∀ (zs : List VP) (i : Nat) (s : JS), goL (fun i p s => (.inl (jS k i p s) : JS ⊕ JS)) id i zs s = (ratP (k.1 * k.2) (zs.map (numV leastV k)) i s.1, ratP (k.1 * k.2) (zs.map (numV mostV k)) i s.2.1, s.2.2 || zs.any markV)
  | [], i, s => by simp [goL, ratP]
  | p :: r, i, s => by
    rw [goL_cons, List.map_cons, List.map_cons, List.any_cons, ← Bool.or_assoc]
    exact jS_eq k r (i + 1) _
theorem any_zip : ∀ {l m : List Va}, l.length = m.length → (l.zip m).any markV = (l.any anyV || m.any anyV)
  | [], [], _ => rfl
  | v :: l, w :: m, h => by
    rw [List.zip_cons_cons, List.any_cons, List.any_cons, List.any_cons, any_zip (by simpa using h)]
    unfold markV anyV underV overV
    cases v.2.2.1 <;> cases v.2.2.2 <;> cases w.2.2.1 <;> cases w.2.2.2 <;> cases l.any (fun v => v.2.2.1 || v.2.2.2) <;> rfl
def trOk (l m : List Va) (k : P2) : Bool := trcM l == 0 && (trcM m == 0 && (l.length == m.length && limM k == 0))
theorem trOk_at {l m : List Va} {k : P2} (h : trOk l m k = true) : Trc l ∧ Trc m ∧ l.length = m.length ∧ limM k = 0 := by
  unfold trOk at h
  simp only [Bool.and_eq_true, beq_iff_eq] at h
  exact ⟨trcZ h.1, trcZ h.2.1, h.2.2.1, h.2.2.2⟩
theorem bndV {l m : List Va} {g : Va → Int} (hg : ∀ v, ((-16384 ≤ lowV v ∧ lowV v ≤ 16384) ∧ (-16384 ≤ highV v ∧ highV v ≤ 16384) ∧ lowV v ≤ highV v) → 0 ≤ g v ∧ g v ≤ 16384) (hl : Trc l) (hm : Trc m) {p : VP} (hp : p ∈ l.zip m) : Bnd (g p.1, g p.2) := by
  have h1 := List.of_mem_zip (show (p.1, p.2) ∈ l.zip m from hp)
  exact ⟨hg _ (hl.2.2 _ h1.1), hg _ (hm.2.2 _ h1.2)⟩
def bd5 (x y : P2) (o : Bool) : AV := .agg [intA x.1, intA x.2, intA y.1, intA y.2, boolA o]
def cbV (g : Va → Int) (l m : List Va) (k : P2) : P2 := lowM (mostP ((l.zip m).map (numV g k)) 0 (-1, 0)).1 (k.1 * k.2)
def rcbG : List AV → Option AV := sp3 vasC vasC p2C fun l m k => bif trOk l m k then some (bd5 (cbV leastV l m k) (cbV mostV l m k) (l.any anyV || m.any anyV)) else none
theorem vI_at (g : Va → Int) (v : Va) : vI g [vaC.enc v] = some (intA (g v)) := sp1_at (A := vaC) (F := fun v => some (intA (g v))) v
theorem sumsB {k : P2} {x y : Int} (hk : limM k = 0) (h : Bnd (x, y)) : sumsOk x y k = true := by
  have h1 := h.1; have h2 := h.2
  simp only at h1 h2
  unfold sumsOk; simp only [Bool.and_eq_true, decide_eq_true_eq, beq_iff_eq]
  exact ⟨h1.1, by omega, h2.1, by omega, hk⟩
def jErr (l m : List Va) (k : P2) : Int := firstM [trcM l, trcM m, whenM (Int.ofNat l.length != Int.ofNat m.length) 2, limM k]
theorem jErrZ {l m : List Va} {k : P2} (h : jErr l m k = 0) : trOk l m k = true := by
  unfold jErr at h
  rw [firstZ, firstZ, firstZ, firstZ] at h
  have := whenLen (by omega) h.2.2.1
  unfold trOk
  rw [h.1, h.2.1, this, h.2.2.2.1]; simp
abbrev Bd5 : Type := P2 × P2 × Bool
def cbB (l m : List Va) (k : P2) : Bd5 := (cbV leastV l m k, cbV mostV l m k, l.any anyV || m.any anyV)
def bdA (x : Bd5) : AV := bd5 x.1 x.2.1 x.2.2
def zB : Bd5 := ((0, 0), (0, 0), false)
def pjbM (l m : List Va) (k : P2) : AV := .tup [bdA (bif jErr l m k == 0 then cbB l m k else zB), intA (jErr l m k)]
def pjbG : List AV → Option AV := sp3 vasC vasC p2C fun l m k => bif Nat.ble l.length lim && Nat.ble m.length lim then some (pjbM l m k) else none
theorem specTrc {l : List Va} (h : Nat.ble l.length lim = true) : trcG [slA vaC 4 l] = some (intA (trcM l)) := by
  have h1 := sp1_at (A := vasC) (F := fun l => bif Nat.ble l.length lim then some (intA (trcM l)) else none) l
  rw [h] at h1; exact h1
theorem comV {g : Va → Int} {l m : List Va} {k : P2} (hg : ∀ v, ((-16384 ≤ lowV v ∧ lowV v ≤ 16384) ∧ (-16384 ≤ highV v ∧ highV v ≤ 16384) ∧ lowV v ≤ highV v) → 0 ≤ g v ∧ g v ≤ 16384) (h : trOk l m k = true) :
    combG [slA intC 1 (l.map g), slA intC 1 (m.map g), p2A k] = some (.tup [p2A (cbV g l m k), intA (mostP ((l.zip m).map (numV g k)) 0 (-1, 0)).2]) := by
  obtain ⟨hsl, hsm, hlm, hk⟩ := trOk_at h
  have hz : (l.map g).zip (m.map g) = (l.zip m).map fun p => (g p.1, g p.2) := by rw [List.zip_map]; rfl
  have hco : (combOk (l.map g) (m.map g) k && !(l.map g).isEmpty) = true := by
    have h1 : (l.map g).isEmpty = false := by
      cases l with
      | nil => exact absurd hsl.1 (by simp)
      | cons => rfl
    rw [h1]
    unfold combOk
    simp only [Bool.and_eq_true, beq_iff_eq, List.all_eq_true, List.length_map, Bool.not_false, and_true]
    refine ⟨hk, hlm, Nat.ble_eq_true_of_le hsl.2.1, fun p hp => ?_⟩
    rw [hz, List.mem_map] at hp
    obtain ⟨q, hq, rfl⟩ := hp
    exact bndB_iff.2 (bndV hg hsl hsm hq)
  have hs := specComb hco
  rw [hz] at hs
  unfold combM at hs
  rw [List.map_map] at hs
  exact hs
def V4 : Specs := V3
theorem V4_ok : Ok V4 := V3_ok
end Go.Vm.S6
