/- The closure that the search over a trace's windows asks. -/
import Derived.Test.YtbplbhcgcicgfaaGreatDoorS6V4
namespace Go.Vm.S6
open Go.Proofs Go.RowKit
theorem Weak.rptr {cs cs' : List AV} (h : WeakL cs cs') : Weak (.rptr cs) (.rptr cs') := fun M y hr => by
  unfold Rep at hr ⊢
  obtain ⟨b, o, l, e, k, r⟩ := hr
  exact ⟨b, o, l, e, h _ _ k, r⟩
theorem Weak.fnc {f : Fn} {xs bs bs' : List AV} (h : WeakL bs bs') : Weak (.fn f xs bs) (.fn f xs bs') := fun M y hr => by
  unfold Rep at hr ⊢
  obtain ⟨l, c, e, k, r⟩ := hr
  exact ⟨l, c, e, k, h _ _ r⟩
/-- A captured trace. -/
def rvC : Cod (List Va) where
  dec | .rptr [a] => vasC.dec a
      | _ => none
  enc l := .rptr [slA vaC 4 l]
  weak a x h := by
    split at h
    · exact Weak.rptr (WeakL.cons (vasC.weak _ _ h) WeakL.nil)
    · cases h
  rt x := vasC.rt x
def clA (es : List AV) : AV := .fn (.func 120) [] [.rptr [.rsl 4 es false]]
def clC : Cod (List Va) where
  dec | .fn (.func g) [] [.rptr [a]] => bif Nat.beq g 120 then vasC.dec a else none
      | _ => none
  enc l := clA (l.map vaC.enc)
  weak a x h := by
    split at h
    · rename_i g a'
      cases hb : Nat.beq g 120 with
      | false => rw [hb] at h; cases h
      | true =>
        rw [hb] at h
        rw [Nat.eq_of_beq_eq_true hb]
        exact Weak.fnc (WeakL.cons (Weak.rptr (WeakL.cons (vasC.weak _ _ h) WeakL.nil)) WeakL.nil)
    · cases h
  rt x := vasC.rt x
end Go.Vm.S6
