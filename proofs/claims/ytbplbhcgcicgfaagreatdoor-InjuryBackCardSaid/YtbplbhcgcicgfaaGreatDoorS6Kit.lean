/- 'mapped': a list of what a function makes of each element. -/
import Derived.Test.YtbplbhcgcicgfaaGreatDoorS6AA
import Derived.Test.YtbplbhcgcicgfaaGreatDoorVmH
import Derived.Test.YtbplbhcgcicgfaaGreatDoorVmG
namespace Go.Vm.S6
open Go.Proofs Go.RowKit
abbrev lim : Nat := 1000000
section
variable {S : Specs} {f : FuncId} {α β : Type} {A : Cod α} {B : Cod β} {fv : AV} {g : α → β} {sza szb bb : Nat}
abbrev mapIn (fv a : AV) (sza : Nat) (es : List AV) (n i : Nat) : List AV := [fv, a, .rsl sza es false, intA (Int.ofNat n), intA (Int.ofNat i)]
theorem mapped_ok (hS : Ok S) (x0 : α) (hB : ∀ y, closed (B.enc y) = true) (hbb : bb ≤ 1024 ∧ bb ≠ 0)
    (ra : ∀ (es : List AV) (n i : Nat) (x : α), roundD (CS S) 60 0 f 0 22 22 false (loopOf (CS S) f 0) [1, 5, 8, 9, 10] [] [1, 5, 8, 9, 10] [19] [5] [] (mapIn fv nilS sza es n i) [] [.chk [A.enc x]] =
      (bif decide (Int.ofNat i < Int.ofNat n) then (.need (es[i]? = some (A.enc x)) (.need (EntClosed [(false, .arr szb [B.enc (g x)] false)]) (.done (some (.nrm, [fv, .sl 19 0 szb 0 1, .rsl sza es false, intA (Int.ofNat n), intA (IntKind.i64.wrap (Int.ofNat i + 1))], [(false, .arr szb [B.enc (g x)] false)]))))) else (.need (EntClosed []) (.done (some (.exit 0, [nilS], []))))))
    (rb : ∀ (es rs : List AV) (n i k : Nat) (x : α), roundD (CS S) 60 0 f 0 22 22 false (loopOf (CS S) f 0) [1, 5, 8, 9, 10] [19] [1, 5, 8, 9, 10] [19] [5] [19] (mapIn fv (.sl 19 0 szb 0 k) sza es n i) [(false, .arr szb rs false)] [.chk [A.enc x], .chk rs] =
      (bif decide (Int.ofNat i < Int.ofNat n) then (.need (es[i]? = some (A.enc x)) (.need (k = rs.length ∧ true = true ∧ szb = szb ∧ (rs ++ [B.enc (g x)]).length * bb ≤ 35184372088832 ∧ (rs ++ [B.enc (g x)]).length ≤ 35184372088832 ∧ bb ≠ 0)
        (.need (EntClosed [(false, .arr szb (rs ++ [B.enc (g x)]) false)]) (.done (some (.nrm, [fv, .sl 19 0 szb 0 (rs ++ [B.enc (g x)]).length, .rsl sza es false, intA (Int.ofNat n), intA (IntKind.i64.wrap (Int.ofNat i + 1))], [(false, .arr szb (rs ++ [B.enc (g x)]) false)])))))) else (.need (EntClosed [(false, .arr szb rs false)]) (.done (some (.exit 0, [.sl 19 0 szb 0 k], [(false, .arr szb rs false)]))))))
    (t : ∀ (es rs : List AV), evTreeD (CS S) 60 f [.rsl sza es false, fv] [.loop 0 [1, 5, 8, 9, 10] [] [5] [] (.exit 0) [.rsl szb rs false] []] =
      (.need (EntClosed [] ∧ EntClosed [] ∧ Says (CS S) 0 22 false (.loop (loopOf (CS S) f 0)) (mkSt [1, 5, 8, 9, 10] [] 22 (mapIn fv nilS sza es es.length 0) []) (.exit 0) (mkSt [5] [] 22 [.rsl szb rs false] [])) (.done (some (.rsl szb rs false)))))
    (l : List α) (hl : l.length ≤ lim) : Cmp f [slA A sza l, fv] (slA B szb (l.map g)) := by
  have hlim : l.length < two63 := by unfold lim at hl; unfold two63; omega
  have hcl : ∀ m : List β, ClosedL (m.map B.enc) := fun m => ClosedL.map hB
  have h := LoopRun.gather (C := CS S) (p := 0) (nt := 22) (rd := false) (c := loopOf (CS S) f 0) (fun _ x => [g x]) 1 (by simp) (fun i (acc : List β) => blSt 19 szb [1, 5, 8, 9, 10] 22 (fun a => mapIn fv a sza (l.map A.enc) l.length i) (acc.map B.enc)) (.exit 0)
    (fun acc => mkSt [5] [] 22 [.rsl szb (acc.map B.enc) false] []) l (by simp)
    (fun i x acc hx hacc => by
      have hi := lt_len hx
      have hlen : ((acc ++ [g x]).map B.enc).length ≤ 35184372088832 / 1024 := by simp; unfold lim at hl; omega
      have hw := wrap_ix hi hlim
      cases acc with
      | nil =>
        refine hS.rndN (ra (l.map A.enc) l.length i x) ?_
        rw [lt_of hi, hw]
        exact ⟨get_map _ hx, ⟨hcl [g x], trivial⟩, rfl⟩
      | cons y ys =>
        have e : blSt 19 szb [1, 5, 8, 9, 10] 22 (fun a => mapIn fv a sza (l.map A.enc) l.length (i + 1)) (((y :: ys) ++ [g x]).map B.enc) = mkSt [1, 5, 8, 9, 10] [19] 22 (mapIn fv (.sl 19 0 szb 0 ((y :: ys).map B.enc ++ [B.enc (g x)]).length) sza (l.map A.enc) l.length (i + 1)) [(false, .arr szb ((y :: ys).map B.enc ++ [B.enc (g x)]) false)] := by
          rw [show ((y :: ys) ++ [g x]).map B.enc = (y :: ys).map B.enc ++ [B.enc (g x)] by simp]; rfl
        show Says _ _ _ _ _ _ _ (blSt 19 szb [1, 5, 8, 9, 10] 22 (fun a => mapIn fv a sza (l.map A.enc) l.length (i + 1)) (((y :: ys) ++ [g x]).map B.enc))
        rw [e]
        refine hS.rndN (rb (l.map A.enc) ((y :: ys).map B.enc) l.length i ((y :: ys).map B.enc).length x) ?_
        rw [lt_of hi, hw]
        rw [show ((y :: ys) ++ [g x]).map B.enc = (y :: ys).map B.enc ++ [B.enc (g x)] by simp] at hlen
        exact ⟨get_map _ hx, ⟨rfl, rfl, rfl, by have := Nat.mul_le_mul hlen hbb.1; omega, by omega, hbb.2⟩, ⟨(hcl (y :: ys)).append (hcl [g x]), trivial⟩, rfl⟩)
    (fun acc _ => by
      refine Says.blEnd (key := 19) ?_ (hcl acc)
      cases acc with
      | nil => exact hS.rndX (ra (l.map A.enc) l.length l.length x0) (by rw [lt_self]; exact ⟨trivial, rfl⟩)
      | cons y ys => exact hS.rndX (rb (l.map A.enc) ((y :: ys).map B.enc) l.length l.length ((y :: ys).map B.enc).length x0) (by rw [lt_self]; exact ⟨⟨hcl (y :: ys), trivial⟩, rfl⟩))
  rw [gath_map] at h
  refine hS.tr (t (l.map A.enc) ((l.map g).map B.enc)) ⟨⟨trivial, trivial, ?_⟩, rfl⟩
  rw [List.length_map]
  exact h.says
end
/-- One function, as a parameter. -/
def fnV (f : FuncId) : AV := .fn (.func f) [] []
def isFn (f : FuncId) : AV → Bool
  | .fn (.func f') [] [] => Nat.beq f' f
  | _ => false
def fnC (f : FuncId) : Cod Unit := oneC (fnV f) (isFn f) (fun b hb => by
  unfold isFn at hb
  split at hb
  · rw [Nat.eq_of_beq_eq_true hb]; exact Weak.rfl
  · cases hb) (by simp [isFn, fnV])
def mapG {α β : Type} (A : Cod α) (sza : Nat) (B : Cod β) (szb : Nat) (f : FuncId) (g : α → β) : List AV → Option AV :=
  sp2 (listC A sza) (fnC f) fun l _ => bif Nat.ble l.length lim then some (slA B szb (l.map g)) else none
theorem mapG_holds {α β : Type} {A : Cod α} {sza : Nat} {B : Cod β} {szb : Nat} {f0 f : FuncId} {g : α → β} (h : ∀ l : List α, l.length ≤ lim → Cmp f0 [slA A sza l, fnV f] (slA B szb (l.map g))) : Holds f0 (mapG A sza B szb f g) := holds2 fun l _ r hr => by
  cases hb : Nat.ble l.length lim with
  | false => simp [hb] at hr
  | true =>
    simp only [hb, cond_true, Option.some.injEq] at hr; subst hr
    exact h l (Nat.le_of_ble_eq_true hb)
theorem e_len {α : Type} (f : α → AV) (l : List α) : Int.ofNat (l.map f).length = Int.ofNat l.length := by simp
theorem limTwo {n : Nat} (h : n ≤ lim) : n < two63 := by unfold lim at h; unfold two63; omega
theorem firstZ (x : Int) (r : List Int) : firstM (x :: r) = 0 ↔ x = 0 ∧ firstM r = 0 := by
  by_cases hx : x = 0
  · subst hx
    show firstM r = 0 ↔ _
    simp
  · have : (x != 0) = true := by simp [hx]
    unfold firstM
    rw [this]
    simp [hx]
theorem firstB (a b : Int) : firstM [a, b] = bif a != 0 then a else b := by
  show (bif a != 0 then a else bif b != 0 then b else 0) = _
  cases h : b != 0 with
  | true => rfl
  | false => have : b = 0 := by simpa using h
             rw [this]; rfl
theorem whenZ {b : Bool} {e : Int} (he : e ≠ 0) (hw : whenM b e = 0) : b = false := by
  cases b with
  | false => rfl
  | true => exact absurd hw he
theorem srch_err {α : Type} (g : α → Int) : ∀ (l : List α) (i : Nat), srch (fun _ x => bif g x != 0 then some (g x) else none) i l = bif firstM (l.map g) != 0 then some (firstM (l.map g)) else none
  | [], _ => rfl
  | x :: r, i => by
    unfold srch
    rw [List.map_cons]
    unfold firstM
    cases h : g x != 0 with
    | true => simp [h]
    | false => simp only [cond_false]; exact srch_err g r (i + 1)
theorem gath_id {α : Type} (l : List α) : gath (fun _ x => [x]) 0 l = l := by rw [gath_map (fun x => x)]; simp
end Go.Vm.S6
