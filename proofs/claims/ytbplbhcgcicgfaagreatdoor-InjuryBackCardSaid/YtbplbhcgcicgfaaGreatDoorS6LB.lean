/- Strings: the law. -/
import Derived.Test.YtbplbhcgcicgfaaGreatDoorS6ZB4
import Derived.Test.YtbplbhcgcicgfaaGreatDoorS6ZC0
namespace Go.Vm.S6
open Go.Proofs Go.RowKit
open Go.Lib
theorem spPrs {s : ByteArray} (h : s.size ≤ 4097) : prsG [strA s] = some (prsT s) := by
  have := sp1_at (A := strC) (F := fun s => bif Nat.ble s.size 4097 then some (prsT s) else none) s
  rw [Nat.ble_eq_true_of_le h] at this; exact this
theorem spOwnS {l : List St3} (h : Nat.ble l.length lim = true) : ownSG [slA stepC 3 l] = some (slA stepC 3 l) := by
  have h1 := sp1_at (A := stepsC) (F := fun l => bif Nat.ble l.length lim then some (slA stepC 3 l) else none) l
  rw [h] at h1; exact h1
theorem spSam {l : List St3} (h : Nat.ble l.length lim = true) : samG [slA stepC 3 l, slA stepC 3 l] = some (boolA true) := by
  have := sp2_at (A := stepsC) (B := stepsC) (F := fun l m => bif decide (l = m) && Nat.ble l.length lim then some (boolA true) else none) l l
  rw [h, decide_eq_true rfl] at this; exact this
end Go.Vm.S6

namespace Go.Vm.S6
open Go.Proofs Go.RowKit
def hasG : List AV → Option AV := sp2 intsC intC fun l v => bif Nat.ble l.length lim then some (boolA (l.any fun x => x == v)) else none
theorem srch_has (v : Int) : ∀ (l : List Int) (i : Nat), srch (fun (_ : Nat) (x : Int) => bif x == v then some () else none) i l = bif l.any (fun x => x == v) then some () else none
  | [], _ => rfl
  | x :: l, i => by
    unfold srch
    rw [List.any_cons]
    cases h : x == v with
    | true => rfl
    | false => exact srch_has v l (i + 1)
theorem h90 : Holds 90 hasG := holds2 fun l v r hr => by
  cases hb : Nat.ble l.length lim with
  | false => simp [hb] at hr
  | true =>
    simp only [hb, cond_true, Option.some.injEq] at hr; subst hr
    have hl : l.length < two63 := Nat.lt_of_le_of_lt (Nat.le_of_ble_eq_true hb) (by decide)
    have h := LoopRun.find (C := CS SL) (p := 0) (nt := 18) (rd := false) (c := loopOf (CS SL) 90 0) (fun (_ : Nat) (x : Int) => bif x == v then some () else none) (fun i => mkSt [0, 1, 5] [] 18 [slA intC 1 l, intA v, intA (Int.ofNat i)] [])
      (fun _ => mkSt [4] [] 18 [boolA true] []) (mkSt [4] [] 18 [.bad] []) (.exit 0) (fun _ => .ret) l (by simp) (by simp)
      (fun i x hx => by
        have hr := r90 (l.map intA) v x i
        rw [e_len intA l, lt_of (lt_len hx), wrap_ix (lt_len hx) hl] at hr
        cases hv : x == v with
        | true => rw [hv] at hr; exact SL_ok.rndR hr ⟨get_map _ hx, trivial, rfl⟩
        | false => rw [hv] at hr; exact SL_ok.rndN hr ⟨get_map _ hx, trivial, rfl⟩)
      (by
        have hr := r90 (l.map intA) v 0 l.length
        rw [e_len intA l, lt_self] at hr
        exact SL_ok.rndX hr ⟨trivial, rfl⟩)
    rw [srch_has] at h
    cases ha : l.any fun x => x == v with
    | true => rw [ha] at h; exact SL_ok.tr (t90r (l.map intA) v) ⟨⟨trivial, trivial, h.says⟩, rfl⟩
    | false => rw [ha] at h; exact SL_ok.tr (t90e (l.map intA) v) ⟨⟨trivial, trivial, h.says⟩, rfl⟩
def Z8 : Specs := Z6.set 90 hasG
set_option maxRecDepth 100000 in
theorem Z8_ok (m : Int) : OkM m Z8 := (Z6_ok m).set (h90.m m)
end Go.Vm.S6
