/- Two series together. -/
import Derived.Test.YtbplbhcgcicgfaaGreatDoorS6TA
namespace Go.Vm.S6
open Go.Proofs Go.RowKit
set_option maxRecDepth 100000 in
theorem t32 (es : List AV) (k e m a b : Int) : evTreeD (CS T5) 60 32 [.rsl 1 es false, intA k] [.sp [.rsl 1 es false] (intA e), .br [] [.sp [.rsl 1 es false, intA k] (.tup [intA m, .agg [intA a, intA b]])]] =
    (.need (([.rsl 1 es false] : List AV) = ([.rsl 1 es false] : List AV) ∧ (Cx.spec (CS T5) 38 ([.rsl 1 es false] : List AV)) = (some (AV.v (.int .i64 e)))) (bif firstM [e, cntM k, whenM (decide (Int.ofNat es.length < k)) 16] != 0 then (.done (some (.tup [intA 0, .agg [intA 0, intA 0], intA (firstM [e, cntM k, whenM (decide (Int.ofNat es.length < k)) 16])]))) else (.need (([.rsl 1 es false, intA k] : List AV) = ([.rsl 1 es false, intA k] : List AV) ∧ (Cx.spec (CS T5) 108 ([.rsl 1 es false, intA k] : List AV)) = (some (AV.tup [intA m, .agg [intA a, intA b]]))) (.done (some (.tup [intA m, .agg [intA a, intA b], intA 0])))))) := by kernel_rfl
set_option maxRecDepth 100000 in
theorem r112 (es fs : List AV) (a b m f x y : Int) (n i : Nat) : roundD (CS T5) 60 0 112 0 46 46 false (loopOf (CS T5) 112 0) [0, 1, 5, 6, 8, 9, 13, 14] [5, 6] [0, 1, 5, 6, 8, 9, 13, 14] [5, 6] [5, 6, 8, 9] [5, 6] [.rsl 1 es false, .rsl 1 fs false, .ptr 5 0 0, .ptr 6 1 0, intA m, intA f, intA (Int.ofNat n), intA (Int.ofNat i)] [(false, .box [intA a, intA b]), (false, .box [intA 0, intA 0])] [.br [.chk [intA x], .skip, .chk [intA y], .skip] []] =
    (bif decide (Int.ofNat i < Int.ofNat n) then (.need (es[i]? = (some (AV.v (.int .i64 x)))) (.need (fs[i]? = (some (AV.v (.int .i64 y)))) (bif decide (IntKind.i64.wrap (IntKind.i64.wrap (x * b) + IntKind.i64.wrap (y * a)) > m) then (.need (EntClosed [(false, .box [intA a, intA b]), (false, .box [intA 0, intA 0])]) (.done (some ((.nrm, [.rsl 1 es false, .rsl 1 fs false, .ptr 5 0 0, .ptr 6 1 0, intA (IntKind.i64.wrap (IntKind.i64.wrap (x * b) + IntKind.i64.wrap (y * a))), intA (Int.ofNat i), intA (Int.ofNat n), intA (IntKind.i64.wrap (Int.ofNat i + 1))], [(false, .box [intA a, intA b]), (false, .box [intA 0, intA 0])]))))) else (.need (EntClosed [(false, .box [intA a, intA b]), (false, .box [intA 0, intA 0])]) (.done (some ((.nrm, [.rsl 1 es false, .rsl 1 fs false, .ptr 5 0 0, .ptr 6 1 0, intA m, intA f, intA (Int.ofNat n), intA (IntKind.i64.wrap (Int.ofNat i + 1))], [(false, .box [intA a, intA b]), (false, .box [intA 0, intA 0])])))))))) else (.need (EntClosed [(false, .box [intA a, intA b]), (false, .box [intA 0, intA 0])]) (.done (some (((.exit 0), [.ptr 5 0 0, .ptr 6 1 0, intA m, intA f], [(false, .box [intA a, intA b]), (false, .box [intA 0, intA 0])])))))) := by kernel_rfl
set_option maxRecDepth 100000 in
theorem t112 (es fs : List AV) (a b m f : Int) (r : P2) : evTreeD (CS T5) 60 112 [.rsl 1 es false, .rsl 1 fs false, .agg [intA a, intA b]] [.loop 0 [0, 1, 5, 6, 8, 9, 13, 14] [5, 6] [5, 6, 8, 9] [5, 6] (.exit 0) [.ptr 5 0 0, .ptr 6 1 0, intA m, intA f] [(false, .box [intA a, intA b]), (false, .box [intA 0, intA 0])], .skip, .skip, .sp [intA m, intA (IntKind.i64.wrap (a * b))] (p2A r)] =
    (.need (EntClosed [(false, .box [intA a, intA b]), (false, .box [intA 0, intA 0])] ∧ EntClosed [(false, .box [intA a, intA b]), (false, .box [intA 0, intA 0])] ∧ Says (CS T5) 0 46 false (.loop (loopOf (CS T5) 112 0)) (mkSt [0, 1, 5, 6, 8, 9, 13, 14] [5, 6] 46 [.rsl 1 es false, .rsl 1 fs false, .ptr 5 0 0, .ptr 6 1 0, intA (-1), intA 0, intA (Int.ofNat es.length), intA 0] [(false, .box [intA a, intA b]), (false, .box [intA 0, intA 0])]) (.exit 0) (mkSt [5, 6, 8, 9] [5, 6] 46 [.ptr 5 0 0, .ptr 6 1 0, intA m, intA f] [(false, .box [intA a, intA b]), (false, .box [intA 0, intA 0])])) (.need (([intA m, intA (IntKind.i64.wrap (a * b))] : List AV) = ([intA m, intA (IntKind.i64.wrap (a * b))] : List AV) ∧ (Cx.spec (CS T5) 157 ([intA m, intA (IntKind.i64.wrap (a * b))] : List AV)) = (some (AV.agg [intA r.fst, intA r.snd]))) (.done (some (.tup [.agg [intA r.fst, intA r.snd], intA f]))))) := by kernel_rfl
theorem specHeld {l : List Int} {k : Int} (h : heldOk l k = true) : hldG [slA intC 1 l, intA k] = some (hldM l k) := by
  have h1 := sp2_at (A := intsC) (B := intC) (F := fun l k => bif heldOk l k then some (hldM l k) else none) l k
  rw [h] at h1; exact h1
def hErr (l : List Int) (k : Int) : Int := firstM [seriesM l, cntM k, whenM (decide (Int.ofNat l.length < k)) 16]
theorem hErrZ {l : List Int} {k : Int} (h : hErr l k = 0) : heldOk l k = true := by
  unfold hErr cntM at h
  rw [firstZ, firstZ, firstZ, within_zero] at h
  have h1 := whenZ (by omega) h.2.2.1
  unfold heldOk
  rw [h.1]
  simp only [decide_eq_false_iff_not, Int.ofNat_eq_natCast] at h1
  simp; omega
def hdM (l : List Int) (k : Int) : AV := bif hErr l k != 0 then .tup [intA 0, p2A (0, 0), intA (hErr l k)] else .tup [intA (heldP l (natOf k)).1, p2A ((heldP l (natOf k)).2, (heldP l (natOf k)).2 + k), intA 0]
def hdG : List AV → Option AV := sp2 intsC intC fun l k => bif Nat.ble l.length lim then some (hdM l k) else none
theorem h32 : Holds 32 hdG := holds2 fun l k r hr => by
  cases hb : Nat.ble l.length lim with
  | false => simp [hb] at hr
  | true =>
    simp only [hb, cond_true, Option.some.injEq] at hr; subst hr
    refine T5_ok.tr (t32 (l.map intA) k (seriesM l) (heldP l (natOf k)).1 (heldP l (natOf k)).2 ((heldP l (natOf k)).2 + k)) ⟨⟨rfl, specSer hb⟩, ?_⟩
    rw [e_len]
    unfold hdM
    show (bif hErr l k != 0 then _ else _ : Dt AV).ok _
    cases hq : hErr l k != 0 with
    | true => rfl
    | false => exact ⟨⟨rfl, specHeld (hErrZ (by simpa using hq))⟩, rfl⟩
/-! ### Two series together -/
abbrev Prs : Type := List (Int × Int)
def numK (k : P2) (p : Int × Int) : Int := p.1 * k.2 + p.2 * k.1
def absP (p : Int × Int) : Int × Int := (absW p.1, absW p.2)
def Bnd (p : Int × Int) : Prop := (0 ≤ p.1 ∧ p.1 ≤ 16384) ∧ 0 ≤ p.2 ∧ p.2 ≤ 16384
def mostS (k : P2) (i : Nat) (p : Int × Int) (s : MI) : MI := bif decide (numK k p > s.1) then (numK k p, Int.ofNat i) else s
theorem mostS_eq (k : P2) : ∀ (zs : Prs) (i : Nat) (s : MI), goL (fun i p s => (.inl (mostS k i p s) : MI ⊕ MI)) id i zs s = mostP (zs.map (numK k)) i s
  | [], _, _ => rfl
  | p :: r, i, s => by
    rw [goL_cons, List.map_cons]
    exact mostS_eq k r (i + 1) _
theorem numB {k : P2} {p : Int × Int} (hk : limM k = 0) (hp : Bnd p) : (0 ≤ p.1 * k.2 ∧ p.1 * k.2 ≤ 16384000) ∧ 0 ≤ p.2 * k.1 ∧ p.2 * k.1 ≤ 16384000 := by
  rw [limZ] at hk
  exact ⟨mul_bd hp.1 ⟨by omega, hk.2.2⟩, mul_bd hp.2 ⟨by omega, hk.1.2⟩⟩
theorem numW {k : P2} {p : Int × Int} (hk : limM k = 0) (hp : Bnd p) : IntKind.i64.wrap (IntKind.i64.wrap (p.1 * k.2) + IntKind.i64.wrap (p.2 * k.1)) = numK k p := by
  have h := numB hk hp
  rw [wrap_in (n := p.1 * k.2) (by omega) (by omega), wrap_in (n := p.2 * k.1) (by omega) (by omega)]
  exact wrap_in (by omega) (by omega)
theorem numR {k : P2} {p : Int × Int} (hk : limM k = 0) (hp : Bnd p) : 0 ≤ numK k p ∧ numK k p ≤ 32768000 := by
  have h := numB hk hp
  unfold numK; omega
theorem prodK {k : P2} (hk : limM k = 0) : (1 ≤ k.1 * k.2 ∧ k.1 * k.2 ≤ 1000000) ∧ IntKind.i64.wrap (k.1 * k.2) = k.1 * k.2 := by
  rw [limZ] at hk
  have e3 := mul_bd (x := k.1) (y := k.2) ⟨by omega, hk.1.2⟩ ⟨by omega, hk.2.2⟩
  have e4 : 1 ≤ k.1 * k.2 := by have := Int.mul_le_mul hk.1.1 hk.2.1 (by omega) (by omega); omega
  exact ⟨⟨e4, by omega⟩, wrap_in (by omega) (by omega)⟩
def bndB (p : Int × Int) : Bool := decide (0 ≤ p.1) && (decide (p.1 ≤ 16384) && (decide (0 ≤ p.2) && decide (p.2 ≤ 16384)))
theorem bndB_iff {p : Int × Int} : bndB p = true ↔ Bnd p := by unfold bndB Bnd; simp; omega
def combOk (l m : List Int) (k : P2) : Bool := limM k == 0 && (l.length == m.length && (Nat.ble l.length 128 && (l.zip m).all bndB))
def combM (zs : Prs) (k : P2) : AV := .tup [p2A (lowM (mostP (zs.map (numK k)) 0 (-1, 0)).1 (k.1 * k.2)), intA (mostP (zs.map (numK k)) 0 (-1, 0)).2]
def combG : List AV → Option AV := sp3 intsC intsC p2C fun l m k => bif combOk l m k && !l.isEmpty then some (combM (l.zip m) k) else none
theorem mostP_in {b : Int} : ∀ (ns : List Int) (i : Nat) (s : MI), (∀ x ∈ ns, 0 ≤ x ∧ x ≤ b) → s.1 ≤ b → (mostP ns i s).1 ≤ b ∧ (s.1 ≤ (mostP ns i s).1)
  | [], _, s, _, h => ⟨h, Int.le_refl _⟩
  | x :: r, i, s, hx, h => by
    have h1 := hx x (by simp)
    show (mostP r (i + 1) (bif decide (x > s.1) then (x, Int.ofNat i) else s)).1 ≤ b ∧ s.1 ≤ (mostP r (i + 1) (bif decide (x > s.1) then (x, Int.ofNat i) else s)).1
    cases hg : decide (x > s.1) with
    | true =>
      have := mostP_in r (i + 1) (x, Int.ofNat i) (fun y hy => hx y (by simp [hy])) h1.2
      simp only [decide_eq_true_eq] at hg
      exact ⟨this.1, by have := this.2; simp only at this; simp only [cond_true]; omega⟩
    | false => exact mostP_in r (i + 1) s (fun y hy => hx y (by simp [hy])) h
theorem mostP_pos {b : Int} {x : Int} {r : List Int} {i : Nat} (h : ∀ y ∈ x :: r, 0 ≤ y ∧ y ≤ b) : 0 ≤ (mostP (x :: r) i (-1, 0)).1 ∧ (mostP (x :: r) i (-1, 0)).1 ≤ b := by
  have h1 := h x (by simp)
  have hg : decide (x > -1) = true := by simp; omega
  show 0 ≤ (mostP r (i + 1) (bif decide (x > -1) then (x, Int.ofNat i) else (-1, 0))).1 ∧ (mostP r (i + 1) (bif decide (x > -1) then (x, Int.ofNat i) else (-1, 0))).1 ≤ b
  rw [hg]
  have := mostP_in (b := b) r (i + 1) (x, Int.ofNat i) (fun y hy => h y (by simp [hy])) h1.2
  have h2 := this.2
  simp only at h2
  exact ⟨by simp only [cond_true]; omega, this.1⟩
theorem zlen {α β : Type} {l : List α} {m : List β} (h : l.length = m.length) : (l.zip m).length = l.length := by simp [h]
theorem combZ {l m : List Int} {k : P2} (h : combOk l m k = true) : limM k = 0 ∧ l.length = m.length ∧ l.length ≤ 128 ∧ ∀ p ∈ l.zip m, Bnd p := by
  unfold combOk at h
  simp only [Bool.and_eq_true, beq_iff_eq, List.all_eq_true] at h
  exact ⟨h.1, h.2.1, Nat.le_of_ble_eq_true h.2.2.1, fun p hp => bndB_iff.1 (h.2.2.2 p hp)⟩
theorem h112 : Holds 112 combG := holds3 fun l m k r hr => by
  cases hb : combOk l m k && !l.isEmpty with
  | false => simp [hb] at hr
  | true =>
    simp only [hb, cond_true, Option.some.injEq] at hr; subst hr
    rw [Bool.and_eq_true] at hb
    obtain ⟨hk, hlm, hl2, hbd⟩ := combZ hb.1
    have hzl := zlen hlm
    have h := LoopRun.list (C := CS T5) (p := 0) (nt := 46) (rd := false) (c := loopOf (CS T5) 112 0) (step := fun i p s => (.inl (mostS k i p s) : MI ⊕ MI)) (fin := id)
      (enc := fun i s => mkSt [0, 1, 5, 6, 8, 9, 13, 14] [5, 6] 46 [.rsl 1 (l.map intA) false, .rsl 1 (m.map intA) false, .ptr 5 0 0, .ptr 6 1 0, intA s.1, intA s.2, intA (Int.ofNat l.length), intA (Int.ofNat i)] [(false, .box [intA k.1, intA k.2]), (false, .box [intA 0, intA 0])])
      (ex := fun _ => .exit 0) (out := fun s => mkSt [5, 6, 8, 9] [5, 6] 46 [.ptr 5 0 0, .ptr 6 1 0, intA s.1, intA s.2] [(false, .box [intA k.1, intA k.2]), (false, .box [intA 0, intA 0])]) (l := l.zip m) (fun _ _ => True)
      (fun i p s hx _ => by
        have hi := lt_len hx
        rw [hzl] at hi
        obtain ⟨h1, h2⟩ := lt2 hx
        have hr := r112 (l.map intA) (m.map intA) k.1 k.2 s.1 s.2 p.1 p.2 l.length i
        rw [lt_of hi, wrap_ix hi (by unfold two63; omega), numW hk (hbd p (List.mem_of_getElem? hx))] at hr
        unfold mostS
        cases hg : decide (numK k p > s.1) with
        | true =>
          rw [hg] at hr
          exact ⟨T5_ok.rndN hr ⟨get_map _ h1, get_map _ h2, trivial, rfl⟩, trivial⟩
        | false =>
          rw [hg] at hr
          exact ⟨T5_ok.rndN hr ⟨get_map _ h1, get_map _ h2, trivial, rfl⟩, trivial⟩)
      (fun s _ => ⟨T5_ok.rndX (r112 (l.map intA) (m.map intA) k.1 k.2 s.1 s.2 0 0 l.length (l.zip m).length) (by rw [hzl, lt_self]; exact ⟨trivial, rfl⟩), by simp⟩)
      (l.zip m) [] (-1, 0) rfl trivial
    rw [show ([] : Prs).length = 0 from rfl, mostS_eq] at h
    have hmx : 0 ≤ (mostP ((l.zip m).map (numK k)) 0 (-1, 0)).1 ∧ (mostP ((l.zip m).map (numK k)) 0 (-1, 0)).1 ≤ 32768000 := by
      cases hz : l.zip m with
      | nil =>
        rw [hz] at hzl
        cases l with
        | nil => cases hb.2
        | cons => simp at hzl
      | cons p r =>
        rw [List.map_cons]
        refine mostP_pos (fun y hy => ?_)
        rw [← List.map_cons, ← hz, List.mem_map] at hy
        obtain ⟨q, hq, rfl⟩ := hy
        exact numR hk (hbd q hq)
    have hd := prodK hk
    refine T5_ok.tr (t112 (l.map intA) (m.map intA) k.1 k.2 (mostP ((l.zip m).map (numK k)) 0 (-1, 0)).1 (mostP ((l.zip m).map (numK k)) 0 (-1, 0)).2 (lowM (mostP ((l.zip m).map (numK k)) 0 (-1, 0)).1 (k.1 * k.2))) ⟨⟨trivial, trivial, ?_⟩, ?_⟩
    · rw [e_len]; exact h.says
    · rw [hd.2]
      exact ⟨⟨rfl, specLow (by unfold lowOk; simp only [Bool.and_eq_true, inN_iff, decide_eq_true_eq]; omega)⟩, rfl⟩
/-! ### The reference's -/
theorem absB {x : Int} (h : -16384 ≤ x ∧ x ≤ 16384) : 0 ≤ absW x ∧ absW x ≤ 16384 := by
  unfold absW
  rw [wrap_in (by omega) (by omega)]
  split <;> omega
def serZ (l m : List Int) (k : P2) : Bool := seriesM l == 0 && (seriesM m == 0 && (l.length == m.length && limM k == 0))
theorem serZ_iff {l m : List Int} {k : P2} : serZ l m k = true ↔ Ser l ∧ Ser m ∧ l.length = m.length ∧ limM k = 0 := by
  unfold serZ; simp [seriesZ]
theorem absBnd {l m : List Int} (hl : Ser l) (hm : Ser m) {p : Int × Int} (hp : p ∈ l.zip m) : Bnd (absP p) := by
  have h1 := List.of_mem_zip (show (p.1, p.2) ∈ l.zip m from hp)
  exact ⟨absB (hl.2.2 _ h1.1), absB (hm.2.2 _ h1.2)⟩
theorem lowM_bd {x d : Int} {b c : Int} (hx : 0 ≤ x ∧ x ≤ b) (hd : 1 ≤ d ∧ d ≤ c) : (0 ≤ (lowM x d).1 ∧ (lowM x d).1 ≤ b) ∧ 0 ≤ (lowM x d).2 ∧ (lowM x d).2 ≤ c := by
  unfold lowM
  have h1 := Int.ediv_nonneg hx.1 (show 0 ≤ (Int.gcd x d : Int) by omega)
  have h2 := Int.ediv_le_self (Int.gcd x d : Int) hx.1
  have h3 := Int.ediv_nonneg (show 0 ≤ d by omega) (show 0 ≤ (Int.gcd x d : Int) by omega)
  have h4 := Int.ediv_le_self (Int.gcd x d : Int) (show 0 ≤ d by omega)
  exact ⟨⟨h1, by omega⟩, h3, by omega⟩
theorem cmpW_eq {x y : P2} {b c : Int} (hx : (0 ≤ x.1 ∧ x.1 ≤ b) ∧ 0 ≤ x.2 ∧ x.2 ≤ c) (hy : (0 ≤ y.1 ∧ y.1 ≤ b) ∧ 0 ≤ y.2 ∧ y.2 ≤ c) (hbc : b * c ≤ 9000000000000000000) : cmpW x y = cmpM x y := by
  have h1 := mul_bd hx.1 hy.2
  have h2 := mul_bd hy.1 hx.2
  unfold cmpW cmpM cmpI
  rw [wrap_in (n := x.1 * y.2) (by omega) (by omega), wrap_in (n := y.1 * x.2) (by omega) (by omega)]
/-! ### Moments -/
theorem whenLen {a b : Nat} {e : Int} (he : e ≠ 0) (h : whenM (Int.ofNat a != Int.ofNat b) e = 0) : a = b := by
  have := whenZ he h
  simp at this
  exact_mod_cast this
def T6 : Specs := ((T5.set 32 hdG).set 112 combG)
theorem T6_ok : Ok T6 := ((T5_ok.set h32).set h112)
end Go.Vm.S6
