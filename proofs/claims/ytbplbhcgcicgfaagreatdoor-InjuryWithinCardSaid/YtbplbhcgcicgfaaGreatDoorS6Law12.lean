/- InjuryWithin: the law's contract. -/
import Derived.Test.YtbplbhcgcicgfaaGreatDoorS6W2
import Derived.Test.YtbplbhcgcicgfaaGreatDoorS6PA
namespace Go.Vm.S6
open Go.Proofs Go.RowKit
theorem ratB {x : P2} (h : ratErr x = 0) : RaB x ∧ PosR x := by
  unfold ratErr at h
  cases hs : sizeErr x != 0 with
  | true => rw [hs, cond_true] at h; rw [h] at hs; cases hs
  | false =>
    have := size_zero.1 (show sizeErr x = 0 by simpa using hs)
    exact ⟨⟨⟨this.1.1, by omega⟩, by omega, this.2.2⟩, this.1.1, by omega⟩
theorem ratLow {x d : Int} (hx : 0 ≤ x ∧ x ≤ 5000000000000) (hd : 1 ≤ d ∧ d ≤ 1000000) : ratErr (lowM x d) = 0 := by
  have hL := lowM_low hx.1 (show 0 < d by omega)
  have hb := lowM_bd hx hd
  unfold ratErr
  have h0 : sizeErr (lowM x d) = 0 := size_zero.2 ⟨hb.1, by have := hL.2.1; omega, hb.2.2⟩
  rw [h0]
  show whenM ((Int.gcd (lowM x d).1 (lowM x d).2 : Int) != 1) 1 = 0
  rw [hL.2.2]; rfl
theorem ratInt {n : Int} (hn : 0 ≤ n ∧ n ≤ 16384) : ratErr (n, 1) = 0 := by
  unfold ratErr
  have h0 : sizeErr (n, 1) = 0 := size_zero.2 ⟨⟨hn.1, by show n ≤ _; omega⟩, by show (1 : Int) ≤ 1; omega, by show (1 : Int) ≤ _; omega⟩
  rw [h0]
  show whenM ((Int.gcd n 1 : Int) != 1) 1 = 0
  rw [Int.gcd_one_right]; rfl
theorem cmpR {x y : P2} (hx : ratErr x = 0) (hy : ratErr y = 0) : cmpW x y = cmpM x y := cmpB (ratB hx).1 (ratB hy).1
theorem le_iff {x y : P2} : cmpM x y ≤ 0 ↔ leR x y := by
  have h1 := cmpM_gt (a := x) (b := y)
  rw [← not_ltR, ← h1]; omega
abbrev mkBd (x y : P2) (o : Bool) : Bd := (x.1, x.2, y.1, y.2, o)
theorem bdOk {x y : P2} {o : Bool} (hx : ratErr x = 0) (hy : ratErr y = 0) (h : leR x y) : bdErr (mkBd x y o) = 0 := by
  unfold bdErr
  have e : firstM [ratErr (loB (mkBd x y o)), ratErr (hiB (mkBd x y o))] = 0 := by
    rw [firstZ, firstZ]; exact ⟨hx, hy, rfl⟩
  rw [e]
  show whenM (decide (cmpW x y > 0)) 11 = 0
  have : decide (cmpW x y > 0) = false := by
    rw [cmpR hx hy, decide_eq_false_iff_not]
    have := le_iff.2 h; omega
  rw [this]; rfl
theorem insOk {x y w : P2} {o : Bool} (hx : ratErr x = 0) (hy : ratErr y = 0) (hw : ratErr w = 0) (h1 : leR x w) (h2 : o = false → leR w y) : insM (mkBd x y o) w = true := by
  unfold insM
  have d1 : decide (cmpW w (loB (mkBd x y o)) ≥ 0) = true := by
    show decide (cmpW w x ≥ 0) = true
    rw [cmpR hw hx, decide_eq_true_eq]; exact le_cmp.1 h1
  rw [d1, cond_true]
  show (bif o then true else decide (cmpW w y ≤ 0)) = true
  cases o with
  | true => rfl
  | false =>
    rw [cond_false, cmpR hw hy, decide_eq_true_eq]
    exact le_iff.2 (h2 rfl)
theorem srch_none {α τ : Type} {f : Nat → α → Option τ} : ∀ {l : List α} {i : Nat}, srch f i l = none → ∀ k x, l[k]? = some x → f (i + k) x = none
  | [], _, _, k, x, hx => by simp at hx
  | y :: r, i, h, k, x, hx => by
    unfold srch at h
    split at h
    · cases h
    · rename_i hf
      cases k with
      | zero => simp only [List.getElem?_cons_zero, Option.some.injEq] at hx; subst hx; exact hf
      | succ k =>
        have := srch_none h k x (by simpa using hx)
        rw [show i + (k + 1) = i + 1 + k by omega]; exact this
theorem tbl_at {l : List St3} (h : tblM l = 0) (i : Nat) (x : St3) (hx : l[i]? = some x) : stErr x = 0 ∧ ∀ p, 1 ≤ i → l[i - 1]? = some p → p.2.2 ≤ x.2.2 := by
  unfold tblM at h
  cases hm : manyI (Int.ofNat l.length) 16 != 0 with
  | true => rw [hm, cond_true] at h; rw [h] at hm; cases hm
  | false =>
    rw [hm, cond_false] at h
    have hn : srch (tblF l) 0 l = none := by
      cases hs : srch (tblF l) 0 l with
      | none => rfl
      | some t =>
        exfalso
        rw [hs] at h
        have h : t = 0 := h
        subst h
        -- no answer of the search is 0
        have key : ∀ (r : List St3) (j : Nat), srch (tblF l) j r ≠ some 0 := by
          intro r
          induction r with
          | nil => intro j; simp [srch]
          | cons y r ih =>
            intro j
            unfold srch
            cases hf : tblF l j y with
            | none => exact ih (j + 1)
            | some t =>
              intro ht
              simp only [Option.some.injEq] at ht
              subst ht
              unfold tblF at hf
              cases he : stErr y != 0 with
              | true =>
                rw [he, cond_true] at hf
                simp only [Option.some.injEq] at hf
                rw [hf] at he; cases he
              | false =>
                rw [he, cond_false] at hf
                cases j with
                | zero => cases hf
                | succ j =>
                  dsimp only at hf
                  cases hp : l[j]? with
                  | none => rw [hp] at hf; cases hf
                  | some p =>
                    rw [hp] at hf
                    dsimp only at hf
                    cases hb : badS p y with
                    | true => rw [hb, cond_true] at hf; simp at hf
                    | false => rw [hb] at hf; cases hf
        exact key l 0 hs
    have := srch_none hn i x hx
    rw [Nat.zero_add] at this
    unfold tblF at this
    cases he : stErr x != 0 with
    | true => rw [he, cond_true] at this; cases this
    | false =>
      rw [he, cond_false] at this
      refine ⟨by simpa using he, fun p hi hp => ?_⟩
      cases i with
      | zero => omega
      | succ j =>
        rw [Nat.add_sub_cancel] at hp
        dsimp only at this
        rw [hp] at this
        dsimp only at this
        cases hb : badS p x with
        | true => rw [hb, cond_true] at this; cases this
        | false =>
          unfold badS at hb
          rw [Bool.or_eq_false_iff] at hb
          have := of_decide_eq_false hb.2
          omega
theorem stOk {s : St3} (h : stErr s = 0) : ratErr (rat3 s) = 0 ∧ 0 ≤ s.2.2 := by
  unfold stErr at h
  rw [firstZ, firstZ, within_zero] at h
  exact ⟨h.1, h.2.1.1⟩
theorem tbl_rises {l : List St3} (h : tblM l = 0) : risesF l 0 := by
  have key : ∀ (n k : Nat) (b : Int), n + k = l.length → (∀ x, l[k]? = some x → b ≤ x.2.2) → risesF (l.drop k) b := by
    intro n
    induction n with
    | zero =>
      intro k b hk _
      rw [List.drop_eq_nil_of_le (by omega)]; trivial
    | succ n ih =>
      intro k b hk hb
      have hkl : k < l.length := by omega
      rw [List.drop_eq_getElem_cons hkl]
      have hg : l[k]? = some l[k] := List.getElem?_eq_getElem hkl
      refine ⟨hb _ hg, ih (k + 1) _ (by omega) fun x hx => ?_⟩
      exact (tbl_at h (k + 1) x hx).2 _ (by omega) hg
  have := key l.length 0 0 (by omega) fun x hx => (stOk (tbl_at h 0 x hx).1).2
  simpa using this
theorem rsk_mono {l : List St3} (h : tblM l = 0) {x y : P2} (hx : ratErr x = 0) (hy : ratErr y = 0) (hxy : leR x y) : rskM l x ≤ rskM l y := by
  refine risk_mono (fun s => decide (cmpW (rat3 s) x ≤ 0)) (fun s => decide (cmpW (rat3 s) y ≤ 0)) (tbl_rises h) (Int.le_refl _) (Int.le_refl _) (Int.le_refl _) fun s hs hp => ?_
  obtain ⟨i, hi⟩ := List.mem_iff_getElem?.1 hs
  have hr := (stOk (tbl_at h i s hi).1).1
  rw [decide_eq_true_eq, cmpR hr hx, le_iff] at hp
  rw [decide_eq_true_eq, cmpR hr hy, le_iff]
  exact leR_trans (ratB hr).2 (ratB hx).2 (ratB hy).2 hp hxy
theorem rsk_last {l : List St3} (h : tblM l = 0) (x : P2) : rskM l x ≤ lastR l := by
  have hne := tblZ h
  cases ht : l[l.length - 1]? with
  | none =>
    rw [List.getElem?_eq_none_iff] at ht
    cases l with
    | nil => cases hne
    | cons a r => simp only [List.length_cons, Nat.add_sub_cancel] at ht; omega
  | some t =>
    unfold lastR
    rw [ht]
    exact risk_last (fun s => decide (cmpW (rat3 s) x ≤ 0)) (tbl_rises h) (Int.le_refl _) t ht
theorem low_rat {l : List Va} {lo hi : Nat} (hlo : 1 ≤ lo) (hS : Ser (l.map lowV)) : ratErr (lowOf (bestM (isU l) (l.map lowV) lo hi)) = 0 := by
  rw [low_eq _ _ _ _ hlo]
  unfold lowR
  refine foldl_P (fun st : Ra => ratErr st = 0) _ _ _ (ratInt ⟨by omega, by omega⟩) fun st f hf hs => foldl_P (fun st : Ra => ratErr st = 0) _ _ _ hs fun st n hn hs => ?_
  rw [List.mem_range] at hf
  rw [List.mem_range'_1] at hn
  unfold lowStep
  cases isU l f n && decide (cmpM (winM (l.map lowV) f n).2 st > 0) with
  | false => exact hs
  | true =>
    rw [cond_true]
    have e : (winM (l.map lowV) f n).2 = wthM (l.map lowV) f (f + n) := by unfold winM wthM winI; simp only [Nat.add_sub_cancel_left]
    rw [e]
    exact ratOk hS (by omega)
theorem numV_eq (g : Va → Int) (l : List Va) : (l.zip l).map (numV g (7, 10)) = l.map fun v => 17 * g v := by
  induction l with
  | nil => rfl
  | cons v r ih =>
    rw [List.zip_cons_cons, List.map_cons, List.map_cons, ih]
    congr 1
    unfold numV numK
    dsimp only
    omega
theorem numR_eq (m : List Int) : ((m.zip m).map fun p => numK (7, 10) (absP p)) = m.map fun x => 17 * absW x := by
  induction m with
  | nil => rfl
  | cons v r ih =>
    rw [List.zip_cons_cons, List.map_cons, List.map_cons, ih]
    congr 1
    unfold numK absP
    dsimp only
    omega
theorem lst_bd {v : Va} (h : (-16384 ≤ lowV v ∧ lowV v ≤ 16384) ∧ (-16384 ≤ highV v ∧ highV v ≤ 16384) ∧ lowV v ≤ highV v) : (0 ≤ leastV v ∧ leastV v ≤ mostV v) ∧ mostV v ≤ 16384 := by
  have w1 : absN (lowV v) = -lowV v := by unfold absN; rw [wrap_in (by omega) (by omega)]; omega
  have w2 : absN (highV v) = -highV v := by unfold absN; rw [wrap_in (by omega) (by omega)]; omega
  unfold leastV mostV mx
  rw [w1, w2]
  cases underV v <;> cases overV v <;> simp only [cond_true, cond_false] <;> (repeat' split) <;> omega
theorem abs_bd {v : Va} {x : Int} (h : (-16384 ≤ lowV v ∧ lowV v ≤ 16384) ∧ (-16384 ≤ highV v ∧ highV v ≤ 16384) ∧ lowV v ≤ highV v) (hx : inV v x) : (leastV v ≤ absW x ∧ absW x ≤ 16384) ∧ (anyV v = false → absW x ≤ mostV v) := by
  have w1 : absN (lowV v) = -lowV v := by unfold absN; rw [wrap_in (by omega) (by omega)]; omega
  have w2 : absN (highV v) = -highV v := by unfold absN; rw [wrap_in (by omega) (by omega)]; omega
  unfold inV at hx
  have wx : absW x = max x (-x) := absW_in (by omega) (by omega)
  unfold leastV mostV mx anyV
  rw [w1, w2, wx]
  cases hu : underV v <;> cases ho : overV v <;> rw [hu, ho] at hx <;> simp only [cond_true, cond_false, Bool.or_true, Bool.or_false, Bool.true_eq_false, false_implies, and_true, true_or, false_or, Bool.false_eq_true, true_and, forall_const] at hx ⊢ <;> (repeat' split) <;> omega
theorem inL.least : ∀ {l : List Va} {m : List Int}, inL l m → (∀ v ∈ l, (-16384 ≤ lowV v ∧ lowV v ≤ 16384) ∧ (-16384 ≤ highV v ∧ highV v ≤ 16384) ∧ lowV v ≤ highV v) → geL (l.map fun v => 17 * leastV v) (m.map fun x => 17 * absW x)
  | [], [], _, _ => trivial
  | v :: r, x :: q, h, k => ⟨by have := (abs_bd (k v (by simp)) h.1).1.1; dsimp only; omega, inL.least h.2 fun w hw => k w (by simp [hw])⟩
  | [], _ :: _, h, _ => h.elim
  | _ :: _, [], h, _ => h.elim
theorem inL.most : ∀ {l : List Va} {m : List Int}, inL l m → (∀ v ∈ l, (-16384 ≤ lowV v ∧ lowV v ≤ 16384) ∧ (-16384 ≤ highV v ∧ highV v ≤ 16384) ∧ lowV v ≤ highV v) → l.any anyV = false → geL (m.map fun x => 17 * absW x) (l.map fun v => 17 * mostV v)
  | [], [], _, _, _ => trivial
  | v :: r, x :: q, h, k, ha => by
    rw [List.any_cons, Bool.or_eq_false_iff] at ha
    exact ⟨by have := (abs_bd (k v (by simp)) h.1).2 ha.1; dsimp only; omega, inL.most h.2 (fun w hw => k w (by simp [hw])) ha.2⟩
  | [], _ :: _, h, _, _ => h.elim
  | _ :: _, [], h, _, _ => h.elim
theorem geL_lm : ∀ {l : List Va}, (∀ v ∈ l, (-16384 ≤ lowV v ∧ lowV v ≤ 16384) ∧ (-16384 ≤ highV v ∧ highV v ≤ 16384) ∧ lowV v ≤ highV v) → geL (l.map fun v => 17 * leastV v) (l.map fun v => 17 * mostV v)
  | [], _ => trivial
  | v :: r, h => ⟨by have := (lst_bd (h v (by simp))).1.2; dsimp only; omega, geL_lm fun w hw => h w (by simp [hw])⟩
theorem inL_high : ∀ {l : List Va}, (∀ v ∈ l, (-16384 ≤ lowV v ∧ lowV v ≤ 16384) ∧ (-16384 ≤ highV v ∧ highV v ≤ 16384) ∧ lowV v ≤ highV v) → inL l (l.map highV)
  | [], _ => trivial
  | v :: r, h => ⟨⟨.inr (h v (by simp)).2.2, .inr (Int.le_refl _), (h v (by simp)).2.1⟩, inL_high fun w hw => h w (by simp [hw])⟩
theorem mostP_bd {m : List Int} {b : Int} (hb : 0 ≤ b) (h : ∀ x ∈ m, x ≤ b) (hne : m ≠ []) (h0 : ∀ x ∈ m, 0 ≤ x) : 0 ≤ (mostP m 0 (-1, 0)).1 ∧ (mostP m 0 (-1, 0)).1 ≤ b := by
  constructor
  · cases m with
    | nil => exact absurd rfl hne
    | cons x r =>
      have := (most_ge (x :: r) 0 (-1, 0)).2 x (by simp)
      have := h0 x (by simp)
      omega
  · have key : ∀ (r : List Int) (i : Nat) (s : MI), s.1 ≤ b → (∀ x ∈ r, x ≤ b) → (mostP r i s).1 ≤ b := by
      intro r
      induction r with
      | nil => intro i s hs _; exact hs
      | cons x r ih =>
        intro i s hs hr
        unfold mostP
        refine ih _ _ ?_ fun y hy => hr y (by simp [hy])
        cases decide (x > s.1) with
        | true => exact hr x (by simp)
        | false => exact hs
    exact key m 0 (-1, 0) (by show (-1 : Int) ≤ b; omega) h
theorem law12_pos {l : List Va} {lo hi : Nat} {f : Nat → Int} {x : P2} {tb : List St3} (tz : trcM l = 0) (h16 : l.length ≤ 16) (hk : 1 ≤ lo ∧ lo ≤ hi ∧ hi ≤ 128) (hll : lo ≤ l.length) (hx : ratErr x = 0) (htl : tb.length ≤ 17) (htb : tblM tb = 0)
    (hf : ∀ i, i < 32 → 0 ≤ f i ∧ f i ≤ 255) : Cmp 12 [slA vaC 4 l, p2A (Int.ofNat lo, Int.ofNat hi), .agg (whC f x.1 x.2 (tb.map stepC.enc))] (boolA true) := by
  have f16 : awakeG [] = some (boolA true) := rfl
  have hT : Trc l := trcZ tz
  have hV := hT.2.2
  have hlim : Nat.ble l.length lim = true := Nat.ble_eq_true_of_le (by unfold lim; omega)
  have hin := realL_in hf l 0 (by omega) hV
  have ht0 := within_loop (l := l) (f := f) (n := x.1) (d := x.2) (lo := Int.ofNat lo) (hi := Int.ofNat hi) (tb := tb.map stepC.enc) h16
  have hRl : (realL f l).length = l.length := hin.len.symm
  have hin : inL l (realL f l) := hin
  generalize hR : realL f l = R at hin ht0 hRl
  have hSR : Ser R := ⟨by rw [hRl]; exact hT.1, by rw [hRl]; exact hT.2.1, hin.bd⟩
  have hlimR : Nat.ble R.length lim = true := by rw [hRl]; exact hlim
  have hSH := serHigh hT
  have hSL := serLow hT
  have hSA := serAdj hT
  have hlimT : Nat.ble tb.length lim = true := Nat.ble_eq_true_of_le (by unfold lim; omega)
  -- the best windows
  obtain ⟨A, B, eR, g20, hbR, _⟩ := spBest hSR hk (by rw [hRl]; exact hll)
  obtain ⟨C, D, eH, _, hbH, _⟩ := spBest hSH hk (by rw [List.length_map]; exact hll)
  have wR := mem_wins.1 hbR.mem
  have wH := mem_wins.1 hbH.mem
  rw [hRl] at wR
  rw [List.length_map] at wH
  have rw0 : ratErr (wthM R A B) = 0 := ratOk hSR (by rw [hRl]; omega)
  have rhi : ratErr (wthM (l.map highV) C D) = 0 := ratOk hSH (by rw [List.length_map]; omega)
  have rlo := low_rat (lo := lo) (hi := hi) hk.1 hSL
  obtain ⟨_, q1⟩ := within_low hk.1 hin hbR
  have q2 : anyO l = false → leR (wthM R A B) (wthM (l.map highV) C D) := fun ho => within_high hk.1 hin hbR hbH ho
  obtain ⟨_, q3⟩ := within_low hk.1 (inL_high hV) hbH
  generalize hLow : lowOf (bestM (isU l) (l.map lowV) lo hi) = ra at rlo q1 q3
  generalize hHi : wthM (l.map highV) C D = rb at rhi q2 q3 eH
  generalize hW : wthM R A B = w at rw0 q1 q2 g20
  have fl : lenG [p2A (Int.ofNat lo, Int.ofNat hi)] = some (intA 0) := by
    have := sp1_at (A := p2C) (F := fun x => some (intA (lenM x))) (Int.ofNat lo, Int.ofNat hi)
    rw [lenOkN hk] at this; exact this
  have f56 : trcG [slA vaC 4 l] = some (intA 0) := by rw [specTrc hlim, tz]
  have f54 : ownVG [slA vaC 4 l] = some (slA vaC 4 l) := by
    have h1 := sp1_at (A := vasC) (F := fun l => bif Nat.ble l.length lim then some (slA vaC 4 l) else none) l
    rw [hlim] at h1; exact h1
  have f62 : stTabG [slA stepC 3 tb] = some (boolA true) := by
    have h1 := sp1_at (A := stepsC) (F := fun l => some (boolA (decide (Int.ofNat l.length ≤ 17)))) tb
    have hd : decide (Int.ofNat tb.length ≤ 17) = true := by simp only [decide_eq_true_eq, Int.ofNat_eq_natCast]; omega
    rw [hd] at h1; exact h1
  have f68 : tblG [slA stepC 3 tb] = some (intA 0) := by rw [specTbl hlimT, htb]
  have f65 : ownSG [slA stepC 3 tb] = some (slA stepC 3 tb) := by
    have h1 := sp1_at (A := stepsC) (F := fun l => bif Nat.ble l.length lim then some (slA stepC 3 l) else none) tb
    rw [hlimT] at h1; exact h1
  have f26x := spRat x
  rw [hx] at f26x
  have f26w := spRat w
  rw [rw0] at f26w
  have whl : decide (Int.ofNat l.length < Int.ofNat lo) = false := by simp only [decide_eq_false_iff_not, Int.ofNat_eq_natCast]; omega
  have f53 : pbbG [slA vaC 4 l, p2A (Int.ofNat lo, Int.ofNat hi)] = some (.tup [bd5 ra rb (anyO l), intA 0]) := by
    have h1 := specAt2 (A := vasC) (B := p2C) (b := fun l _ => Nat.ble l.length lim) (F := fun l k => pbbM l k) l (Int.ofNat lo, Int.ofNat hi) hlim
    have h0 : tErr l (Int.ofNat lo, Int.ofNat hi) = 0 := by
      unfold tErr
      rw [firstZ, firstZ, firstZ]
      refine ⟨tz, lenOkN hk, ?_, rfl⟩
      show whenM (decide (Int.ofNat l.length < Int.ofNat lo)) 16 = 0
      rw [whl]; rfl
    unfold pbbM at h1
    rw [h0] at h1
    unfold bbM at h1
    rw [show natOf (Int.ofNat lo, Int.ofNat hi).1 = lo from rfl, show natOf (Int.ofNat lo, Int.ofNat hi).2 = hi from rfl, hLow, eH] at h1
    exact h1
  -- the held levels
  obtain ⟨hv1, hv2, g32, hvb, h32⟩ : ∃ hv1 hv2 : Nat, hdG [slA intC 1 R, intA (Int.ofNat lo)] = some (.tup [intA (heldP R lo).1, p2A (Int.ofNat hv1, Int.ofNat hv2), intA 0]) ∧ (-16384 ≤ (heldP R lo).1 ∧ (heldP R lo).1 ≤ 16384) ∧ True := by
    obtain ⟨g, e, k1, k2⟩ := heldP_spec (l := R) (n := lo) (fun y hy => (hSR.2.2 y hy).1)
    obtain ⟨g', e', _, _⟩ := spHeld hSR (n := lo) (by rw [hRl]; omega)
    have hb : -16384 ≤ minW R g lo ∧ minW R g lo ≤ 16384 := by
      refine ⟨minW_ge _ (by omega) fun y hy => (hSR.2.2 y hy).1, ?_⟩
      have := minM_mem (l := (R.drop g).take lo) (by intro h0; have := congrArg List.length h0; rw [List.length_take, List.length_drop, List.length_nil] at this; omega)
      exact (hSR.2.2 _ (List.mem_of_mem_drop (List.mem_of_mem_take this))).2
    have h0 : hErr R (Int.ofNat lo) = 0 := by
      unfold hErr cntM
      rw [firstZ, firstZ, firstZ, within_zero, seriesZ]
      refine ⟨hSR, by simp only [Int.ofNat_eq_natCast]; omega, ?_, rfl⟩
      rw [hRl, whl]; rfl
    have h1 := specAt2 (A := intsC) (B := intC) (b := fun l _ => Nat.ble l.length lim) (F := fun l c => hdM l c) R (Int.ofNat lo) hlimR
    unfold hdM at h1
    rw [h0, show natOf (Int.ofNat lo) = lo from rfl] at h1
    refine ⟨g, g + lo, ?_, by rw [e]; exact hb, trivial⟩
    rw [e] at h1 ⊢
    exact h1
  have m1 : (heldP (l.map adjV) lo).1 ≤ (heldP R lo).1 := held_mono hin.adj hk.1 (by rw [List.length_map]; exact hll) (fun y hy => (hSA.2.2 y hy).1) (fun y hy => (hSR.2.2 y hy).1)
  have m2 : anyO l = false → (heldP R lo).1 ≤ (heldP (l.map highV) lo).1 := fun ho => held_mono (hin.high ho) hk.1 (by rw [hRl]; exact hll) (fun y hy => (hSR.2.2 y hy).1) (fun y hy => (hSH.2.2 y hy).1)
  have m3 : (heldP (l.map adjV) lo).1 ≤ (heldP (l.map highV) lo).1 := held_mono (inL_high hV).adj hk.1 (by rw [List.length_map]; exact hll) (fun y hy => (hSA.2.2 y hy).1) (fun y hy => (hSH.2.2 y hy).1)
  have m4 : (heldP (l.map highV) lo).1 ≤ 16384 := by
    obtain ⟨g, e, k1, k2⟩ := heldP_spec (l := l.map highV) (n := lo) (fun y hy => (hSH.2.2 y hy).1)
    rw [e]
    have := minM_mem (l := ((l.map highV).drop g).take lo) (by intro h0; have := congrArg List.length h0; rw [List.length_take, List.length_drop, List.length_nil, List.length_map] at this; rw [List.length_map] at k1; omega)
    exact (hSH.2.2 _ (List.mem_of_mem_drop (List.mem_of_mem_take this))).2
  generalize hHR : (heldP R lo).1 = hv at g32 hvb m1 m2
  generalize hHA : (heldP (l.map adjV) lo).1 = ha at m1 m3
  generalize hHH : (heldP (l.map highV) lo).1 = hh at m2 m3 m4
  have f55 : phbG [slA vaC 4 l, intA (Int.ofNat lo)] = some (.tup [bd5 (mx ha 0, 1) (mx hh 0, 1) (anyO l), intA 0]) := by
    have h1 := specAt2 (A := vasC) (B := intC) (b := fun l _ => Nat.ble l.length lim) (F := fun l k => phbM l k) l (Int.ofNat lo) hlim
    have h0 : hbErr l (Int.ofNat lo) = 0 := by
      unfold hbErr cntM
      rw [firstZ, firstZ, firstZ, within_zero]
      refine ⟨tz, by simp only [Int.ofNat_eq_natCast]; omega, ?_, rfl⟩
      rw [whl]; rfl
    unfold phbM at h1
    rw [h0] at h1
    unfold hbM at h1
    rw [show natOf (Int.ofNat lo) = lo from rfl, hHA, hHH] at h1
    exact h1
  have mxe : ∀ y : Int, mx y 0 = max y 0 := fun y => by unfold mx; split <;> omega
  have r1 : ratErr (mx ha 0, 1) = 0 := ratInt (by rw [mxe]; omega)
  have r2 : ratErr (mx hh 0, 1) = 0 := ratInt (by rw [mxe]; omega)
  have hmv : (if hv > 0 then hv else 0) = max hv 0 := by split <;> omega
  have r3 : ratErr (max hv 0, 1) = 0 := ratInt (by omega)
  have le1 : ∀ y z : Int, y ≤ z → leR (y, 1) (z, 1) := fun y z h => by unfold leR; show y * 1 ≤ z * 1; omega
  have i1 : leR (mx ha 0, 1) (mx hh 0, 1) := le1 _ _ (by rw [mxe, mxe]; omega)
  have i2 : leR (mx ha 0, 1) (max hv 0, 1) := le1 _ _ (by rw [mxe]; omega)
  have i3 : anyO l = false → leR (max hv 0, 1) (mx hh 0, 1) := fun ho => le1 _ _ (by rw [mxe]; have := m2 ho; omega)
  -- the sums by limits
  have lz : limM (7, 10) = 0 := by decide
  have ne : l ≠ [] := by intro h0; have := hT.1; rw [h0] at this; simp at this
  have neR : R ≠ [] := by intro h0; rw [h0] at hRl; simp at hRl; omega
  have s1 := mostP_bd (m := l.map fun v => 17 * leastV v) (b := 278528) (by omega) (fun y hy => by rw [List.mem_map] at hy; obtain ⟨v, hv, rfl⟩ := hy; have := lst_bd (hV v hv); omega) (by simpa using ne) (fun y hy => by rw [List.mem_map] at hy; obtain ⟨v, hv, rfl⟩ := hy; have := lst_bd (hV v hv); omega)
  have s2 := mostP_bd (m := l.map fun v => 17 * mostV v) (b := 278528) (by omega) (fun y hy => by rw [List.mem_map] at hy; obtain ⟨v, hv, rfl⟩ := hy; have := lst_bd (hV v hv); omega) (by simpa using ne) (fun y hy => by rw [List.mem_map] at hy; obtain ⟨v, hv, rfl⟩ := hy; have := lst_bd (hV v hv); omega)
  have absB : ∀ y ∈ R, 0 ≤ absW y ∧ absW y ≤ 16384 := fun y hy => by
    have := hSR.2.2 y hy
    rw [absW_in (by omega) (by omega)]; omega
  have s3 := mostP_bd (m := R.map fun y => 17 * absW y) (b := 278528) (by omega) (fun y hy => by rw [List.mem_map] at hy; obtain ⟨v, hv, rfl⟩ := hy; have := absB v hv; omega) (by simpa using neR) (fun y hy => by rw [List.mem_map] at hy; obtain ⟨v, hv, rfl⟩ := hy; have := absB v hv; omega)
  have p1 := most_mono (i := 0) (j := 0) (s := (-1, 0)) (t := (-1, 0)) (hin.least hV) (Int.le_refl _)
  have p2 : l.any anyV = false → _ := fun ha => most_mono (i := 0) (j := 0) (s := (-1, 0)) (t := (-1, 0)) (hin.most hV ha) (Int.le_refl _)
  have p3 := most_mono (i := 0) (j := 0) (s := (-1, 0)) (t := (-1, 0)) (geL_lm hV) (Int.le_refl _)
  have f60 : pjbG [slA vaC 4 l, slA vaC 4 l, p2A (7, 10)] = some (.tup [bd5 (lowM (mostP (l.map fun v => 17 * leastV v) 0 (-1, 0)).1 70) (lowM (mostP (l.map fun v => 17 * mostV v) 0 (-1, 0)).1 70) (l.any anyV), intA 0]) := by
    have h1 := sp3_at (A := vasC) (B := vasC) (D := p2C) (F := fun l m k => bif Nat.ble l.length lim && Nat.ble m.length lim then some (pjbM l m k) else none) l l (7, 10)
    rw [hlim] at h1
    have h0 : jErr l l (7, 10) = 0 := by
      unfold jErr
      rw [firstZ, firstZ, firstZ, firstZ]
      refine ⟨tz, tz, ?_, lz, rfl⟩
      rw [show (Int.ofNat l.length != Int.ofNat l.length) = false by simp]; rfl
    unfold pjbM at h1
    rw [h0] at h1
    unfold cbB cbV at h1
    rw [numV_eq, numV_eq, Bool.or_self] at h1
    exact h1
  obtain ⟨un, f39⟩ : ∃ un, pcoG [slA intC 1 R, slA intC 1 R, p2A (7, 10)] = some (.tup [p2A (lowM (mostP (R.map fun y => 17 * absW y) 0 (-1, 0)).1 70), intA un, intA 0]) := by
    have h1 := sp3_at (A := intsC) (B := intsC) (D := p2C) (F := fun l m k => bif Nat.ble l.length lim && Nat.ble m.length lim then some (pcoM l m k) else none) R R (7, 10)
    rw [hlimR] at h1
    have h0 : cErr R R (7, 10) = 0 := by
      unfold cErr
      rw [firstZ, firstZ, firstZ, firstZ, seriesZ]
      refine ⟨hSR, hSR, ?_, lz, rfl⟩
      rw [show (Int.ofNat R.length != Int.ofNat R.length) = false by simp]; rfl
    unfold pcoM at h1
    rw [h0, numR_eq] at h1
    exact ⟨_, h1⟩
  generalize hX1 : (mostP (l.map fun v => 17 * leastV v) 0 (-1, 0)).1 = x1 at s1 p1 p3 f60
  generalize hX2 : (mostP (l.map fun v => 17 * mostV v) 0 (-1, 0)).1 = x2 at s2 p2 p3 f60
  generalize hX3 : (mostP (R.map fun y => 17 * absW y) 0 (-1, 0)).1 = x3 at s3 p1 p2 f39
  have u1 : ratErr (lowM x1 70) = 0 := ratLow ⟨s1.1, by omega⟩ (by omega)
  have u2 : ratErr (lowM x2 70) = 0 := ratLow ⟨s2.1, by omega⟩ (by omega)
  have u3 : ratErr (lowM x3 70) = 0 := ratLow ⟨s3.1, by omega⟩ (by omega)
  have j1 : leR (lowM x1 70) (lowM x2 70) := low_mono s1.1 (by omega) p3
  have j2 : leR (lowM x1 70) (lowM x3 70) := low_mono s1.1 (by omega) p1
  have j3 : l.any anyV = false → leR (lowM x3 70) (lowM x2 70) := fun ha => low_mono s3.1 (by omega) (p2 ha)
  generalize lowM x1 70 = c1 at *
  generalize lowM x2 70 = c2 at *
  generalize lowM x3 70 = c3 at *
  have f26u := spRat c3
  rw [u3] at f26u
  have spBd : ∀ (y z : P2) (o : Bool), ratErr y = 0 → ratErr z = 0 → leR y z → bdG [bd5 y z o] = some (intA 0) := fun y z o h1 h2 h3 => by
    have h4 := sp1_at (A := bdC) (F := fun b => some (intA (bdErr b))) (mkBd y z o)
    rw [bdOk h1 h2 h3] at h4; exact h4
  have spIn : ∀ (y z v : P2) (o : Bool), ratErr y = 0 → ratErr z = 0 → ratErr v = 0 → leR y v → (o = false → leR v z) → insG [bd5 y z o, p2A v] = some (boolA true) := fun y z v o h1 h2 h3 h4 h5 => by
    have h6 := sp2_at (A := bdC) (B := p2C) (F := fun b x => some (boolA (insM b x))) (mkBd y z o) v
    rw [insOk h1 h2 h3 h4 h5] at h6; exact h6
  have f67a := spBd ra rb (anyO l) rlo rhi q3
  have f67b := spBd (mx ha 0, 1) (mx hh 0, 1) (anyO l) r1 r2 i1
  have f67c := spBd c1 c2 (l.any anyV) u1 u2 j1
  have f83a := spIn ra rb w (anyO l) rlo rhi rw0 q1 q2
  have f83b := spIn (mx ha 0, 1) (mx hh 0, 1) (max hv 0, 1) (anyO l) r1 r2 r3 i2 i3
  have f83c := spIn c1 c2 c3 (l.any anyV) u1 u2 u3 j2 j3
  -- the margin, and the risk
  have zb : bdErr (mkBd ra rb (anyO l)) = 0 := bdOk rlo rhi q3
  have f63 : pmaG [bd5 ra rb (anyO l), p2A x] = some (.tup [intA (marM (mkBd ra rb (anyO l)) x), intA 0]) := by
    have h1 := sp2_at (A := bdC) (B := p2C) (F := fun b x => some (pmaM b x)) (mkBd ra rb (anyO l)) x
    have h0 : mErr (mkBd ra rb (anyO l)) x = 0 := by unfold mErr; rw [firstZ, firstZ]; exact ⟨zb, hx, rfl⟩
    unfold pmaM at h1
    rw [h0] at h1
    exact h1
  have f64 : prkG [slA stepC 3 tb, p2A w] = some (.tup [intA (rskM tb w), intA 0]) := by
    have h1 := specAt2 (A := stepsC) (B := p2C) (b := fun l _ => Nat.ble l.length lim) (F := fun l x => prkM l x) tb w hlimT
    have h0 : rErr tb w = 0 := by unfold rErr; rw [firstZ, firstZ]; exact ⟨htb, rw0, rfl⟩
    unfold prkM at h1
    rw [h0] at h1
    exact h1
  have f66 : prbG [slA stepC 3 tb, bd5 ra rb (anyO l)] = some (.tup [p2A (rbM tb (mkBd ra rb (anyO l))), intA 0]) := by
    have h1 := specAt2 (A := stepsC) (B := bdC) (b := fun l _ => Nat.ble l.length lim) (F := fun l b => prbM l b) tb (mkBd ra rb (anyO l)) hlimT
    have h0 : rbErr tb (mkBd ra rb (anyO l)) = 0 := by unfold rbErr; rw [firstZ, firstZ]; exact ⟨htb, zb, rfl⟩
    unfold prbM at h1
    rw [h0] at h1
    exact h1
  have hmar : marM (mkBd ra rb (anyO l)) x = 0 ∨ cmpM w x = marM (mkBd ra rb (anyO l)) x := by
    refine margin_in (lo := ra) (hi := rb) (o := anyO l) (ratB rlo).2 (ratB rhi).2 (ratB rw0).2 (ratB hx).2 q1 q2 ?_
    unfold marM
    rw [show hiB (mkBd ra rb (anyO l)) = rb from rfl, show loB (mkBd ra rb (anyO l)) = ra from rfl, show ovB (mkBd ra rb (anyO l)) = anyO l from rfl, cmpR rhi hx, cmpR rlo hx]
  have hmb : decide (marM (mkBd ra rb (anyO l)) x ≥ -1) = true ∧ decide (marM (mkBd ra rb (anyO l)) x ≤ 1) = true := by
    unfold marM
    cases !ovB (mkBd ra rb (anyO l)) && decide (cmpW (hiB (mkBd ra rb (anyO l))) x < 0) with
    | true => exact ⟨rfl, rfl⟩
    | false => cases decide (cmpW (loB (mkBd ra rb (anyO l))) x > 0) <;> exact ⟨rfl, rfl⟩
  have k1 : decide (rskM tb w ≥ (rbM tb (mkBd ra rb (anyO l))).1) = true := by
    rw [decide_eq_true_eq]
    exact rsk_mono htb rlo rw0 q1
  have k2 : decide (rskM tb w ≤ (rbM tb (mkBd ra rb (anyO l))).2) = true := by
    rw [decide_eq_true_eq]
    show rskM tb w ≤ bif anyO l then lastR tb else rskM tb rb
    cases ho : anyO l with
    | true => exact rsk_last htb w
    | false => exact rsk_mono htb rw0 rhi (q2 ho)
  have f80 := spCmp w x
  rw [cmpR rw0 hx] at f80
  have h1 := t12 (l.map vaC.enc) (tb.map stepC.enc) (R.map intA) f x.1 x.2 (Int.ofNat lo) (Int.ofNat hi) ra.1 ra.2 rb.1 rb.2 (mx ha 0) 1 (mx hh 0) 1 c1.1 c1.2 c2.1 c2.2 (Int.ofNat A) (Int.ofNat B) w.1 w.2 hv (Int.ofNat hv1) (Int.ofNat hv2) c3.1 c3.2 un (max hv 0) (marM (mkBd ra rb (anyO l)) x) (rskM tb w)
    (rbM tb (mkBd ra rb (anyO l))).1 (rbM tb (mkBd ra rb (anyO l))).2 (cmpM w x) (anyO l) (anyO l) (l.any anyV)
  have d16 : decide (Int.ofNat l.length > 16) = false := by simp only [decide_eq_false_iff_not, Int.ofNat_eq_natCast]; omega
  have d57 : decide (Int.ofNat lo > Int.ofNat l.length) = false := by simp only [decide_eq_false_iff_not, Int.ofNat_eq_natCast]; omega
  have d241 : decide (hv < -16384) = false := by simp only [decide_eq_false_iff_not]; omega
  have d244 : decide (hv > 16384) = false := by simp only [decide_eq_false_iff_not]; omega
  rw [e_len' vaC, hmv] at h1
  cases hm0 : marM (mkBd ra rb (anyO l)) x == 0 with
  | true =>
    rw [hm0, k1, k2] at h1
    exact W1_ok.tr h1 ⟨⟨rfl, f16⟩, d16, ⟨rfl, f56⟩, ⟨rfl, fl⟩, d57, ⟨rfl, f26x⟩, ⟨rfl, f62⟩, ⟨rfl, f68⟩, ⟨trivial, trivial, ht0.says⟩, ⟨rfl, f54⟩, ⟨rfl, f53⟩, ⟨rfl, specOwn hlimR⟩, ⟨rfl, g20⟩, ⟨rfl, f54⟩, ⟨rfl, f55⟩, ⟨rfl, specOwn hlimR⟩, ⟨rfl, g32⟩,
      ⟨rfl, f54⟩, ⟨rfl, f54⟩, ⟨rfl, f60⟩, ⟨rfl, specOwn hlimR⟩, ⟨rfl, specOwn hlimR⟩, ⟨rfl, f39⟩, ⟨rfl, f67a⟩, ⟨rfl, f67b⟩, ⟨rfl, f67c⟩, ⟨rfl, f26w⟩, ⟨rfl, f26u⟩, d241, d244, ⟨rfl, f83a⟩, ⟨rfl, f83b⟩, ⟨rfl, f83c⟩, ⟨rfl, f63⟩, ⟨rfl, f65⟩, ⟨rfl, f64⟩, ⟨rfl, f65⟩, ⟨rfl, f66⟩, hmb.1, hmb.2, rfl⟩
  | false =>
    have hm1 : cmpM w x = marM (mkBd ra rb (anyO l)) x := by
      rcases hmar with h | h
      · rw [h] at hm0; cases hm0
      · exact h
    have hmq : (cmpM w x == marM (mkBd ra rb (anyO l)) x) = true := by rw [hm1]; simp
    rw [hm0, k2] at h1
    exact W1_ok.tr h1 ⟨⟨rfl, f16⟩, d16, ⟨rfl, f56⟩, ⟨rfl, fl⟩, d57, ⟨rfl, f26x⟩, ⟨rfl, f62⟩, ⟨rfl, f68⟩, ⟨trivial, trivial, ht0.says⟩, ⟨rfl, f54⟩, ⟨rfl, f53⟩, ⟨rfl, specOwn hlimR⟩, ⟨rfl, g20⟩, ⟨rfl, f54⟩, ⟨rfl, f55⟩, ⟨rfl, specOwn hlimR⟩, ⟨rfl, g32⟩,
      ⟨rfl, f54⟩, ⟨rfl, f54⟩, ⟨rfl, f60⟩, ⟨rfl, specOwn hlimR⟩, ⟨rfl, specOwn hlimR⟩, ⟨rfl, f39⟩, ⟨rfl, f67a⟩, ⟨rfl, f67b⟩, ⟨rfl, f67c⟩, ⟨rfl, f26w⟩, ⟨rfl, f26u⟩, d241, d244, ⟨rfl, f83a⟩, ⟨rfl, f83b⟩, ⟨rfl, f83c⟩, ⟨rfl, f63⟩, ⟨rfl, f65⟩, ⟨rfl, f64⟩, ⟨rfl, f65⟩, ⟨rfl, f66⟩, hmb.1, hmb.2, ⟨rfl, f80⟩, hmq, k1, rfl⟩
theorem law12 {l : List Va} {k x : P2} {f : Nat → Int} {tb : List St3} (hf : ∀ i, i < 32 → 0 ≤ f i ∧ f i ≤ 255) : Cmp 12 [slA vaC 4 l, p2A k, .agg (whC f x.1 x.2 (tb.map stepC.enc))] (boolA true) := by
  have f16 : awakeG [] = some (boolA true) := rfl
  have ht := t12e (l.map vaC.enc) (tb.map stepC.enc) f x.1 x.2 k.1 k.2 (trcM l) (lenM k) (ratErr x) (tblM tb) (decide (Int.ofNat tb.length ≤ 17))
  rw [e_len' vaC] at ht
  have fl : lenG [p2A k] = some (intA (lenM k)) := sp1_at (A := p2C) (F := fun x => some (intA (lenM x))) k
  have f62 : stTabG [slA stepC 3 tb] = some (boolA (decide (Int.ofNat tb.length ≤ 17))) := sp1_at (A := stepsC) (F := fun l => some (boolA (decide (Int.ofNat l.length ≤ 17)))) tb
  by_cases h16 : l.length > 16
  · have hd : decide (Int.ofNat l.length > 16) = true := by simp only [decide_eq_true_eq, Int.ofNat_eq_natCast]; omega
    rw [hd] at ht
    exact W1_ok.tr ht ⟨⟨rfl, f16⟩, ⟨rfl, f16⟩, rfl⟩
  · have hd : decide (Int.ofNat l.length > 16) = false := by simp only [decide_eq_false_iff_not, Int.ofNat_eq_natCast]; omega
    have hlim : Nat.ble l.length lim = true := Nat.ble_eq_true_of_le (by unfold lim; omega)
    cases hs : trcM l != 0 with
    | true =>
      rw [hd, hs] at ht
      exact W1_ok.tr ht ⟨⟨rfl, f16⟩, ⟨rfl, specTrc hlim⟩, ⟨rfl, f16⟩, rfl⟩
    | false =>
      cases hk : lenM k != 0 with
      | true =>
        rw [hd, hs, hk] at ht
        exact W1_ok.tr ht ⟨⟨rfl, f16⟩, ⟨rfl, specTrc hlim⟩, ⟨rfl, fl⟩, ⟨rfl, f16⟩, rfl⟩
      | false =>
        obtain ⟨lo, hi, rfl, h1, h2, h3⟩ := lenZ (show lenM k = 0 by simpa using hk)
        by_cases hll : lo ≤ l.length
        · have hg : decide (Int.ofNat lo > Int.ofNat l.length) = false := by simp only [decide_eq_false_iff_not, Int.ofNat_eq_natCast]; omega
          cases hr : ratErr x != 0 with
          | true =>
            rw [hd, hs, hk, hg, hr] at ht
            exact W1_ok.tr ht ⟨⟨rfl, f16⟩, ⟨rfl, specTrc hlim⟩, ⟨rfl, fl⟩, ⟨rfl, spRat x⟩, ⟨rfl, f16⟩, rfl⟩
          | false =>
            cases h17 : decide (Int.ofNat tb.length ≤ 17) with
            | false =>
              rw [h17] at f62
              rw [hd, hs, hk, hg, hr, h17] at ht
              exact W1_ok.tr ht ⟨⟨rfl, f16⟩, ⟨rfl, specTrc hlim⟩, ⟨rfl, fl⟩, ⟨rfl, spRat x⟩, ⟨rfl, f62⟩, ⟨rfl, f16⟩, rfl⟩
            | true =>
              have htl : tb.length ≤ 17 := by have := of_decide_eq_true h17; simp only [Int.ofNat_eq_natCast] at this; omega
              have hlimT : Nat.ble tb.length lim = true := Nat.ble_eq_true_of_le (by unfold lim; omega)
              cases h5 : tblM tb != 0 with
              | true =>
                rw [h17] at f62
                rw [hd, hs, hk, hg, hr, h17, h5] at ht
                exact W1_ok.tr ht ⟨⟨rfl, f16⟩, ⟨rfl, specTrc hlim⟩, ⟨rfl, fl⟩, ⟨rfl, spRat x⟩, ⟨rfl, f62⟩, ⟨rfl, specTbl hlimT⟩, rfl, ⟨rfl, f16⟩, rfl⟩
              | false => exact law12_pos (by simpa using hs) (by omega) ⟨h1, h2, h3⟩ hll (by simpa using hr) htl (by simpa using h5) hf
        · have hg : decide (Int.ofNat lo > Int.ofNat l.length) = true := by simp only [decide_eq_true_eq, Int.ofNat_eq_natCast]; omega
          rw [hd, hs, hk, hg] at ht
          exact W1_ok.tr ht ⟨⟨rfl, f16⟩, ⟨rfl, specTrc hlim⟩, ⟨rfl, fl⟩, ⟨rfl, f16⟩, rfl⟩
end Go.Vm.S6
