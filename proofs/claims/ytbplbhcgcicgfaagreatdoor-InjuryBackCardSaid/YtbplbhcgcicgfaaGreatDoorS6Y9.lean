/- Strings: the reference's Parse. -/
import Derived.Test.YtbplbhcgcicgfaaGreatDoorS6YC
namespace Go.Vm.S6
open Go.Proofs Go.RowKit
open Go.Lib
def isStep (w : ByteArray) : Bool := w.toList == (ByteArray.mk #[115, 116, 101, 112]).toList
def lnP : List ByteArray → Option St3
  | [w0, w1, w2, w3] => bif isStep w0 then (match okN w1, okN w2, okN w3 with | some a, some b, some c => some (a, b, c) | _, _, _ => none) else none
  | _ => none
def lineP (w : ByteArray) : Option St3 := lnP (partsB 32 w)
def stp87 (i : Nat) (w : ByteArray) (rs : List St3) : List St3 ⊕ (Nat ⊕ List St3) := match lineP w with
  | some v => .inl (rs ++ [v])
  | none => .inr (.inl i)
theorem spSpl {s : ByteArray} {c : UInt8} (h : Nat.ble s.size 100000 = true) : spltG [strA s, u8A (Int.ofNat c.toNat)] = some (slA strC 1 (partsB c s)) := by
  have := sp2_at (A := strC) (B := byC) (F := fun s c => bif Nat.ble s.size 100000 then some (slA strC 1 (partsB c s)) else none) s c
  rw [h] at this; exact this
theorem stCl (l : List St3) : ClosedL (l.map stepC.enc) := ClosedL.map fun _ => rfl
def lastB (s : ByteArray) : ByteArray := (partsB 10 s).getLastD ⟨#[]⟩
def notNil (w : ByteArray) : Bool := !(w.toList == (ByteArray.mk #[]).toList)
def rows87 (s : ByteArray) : Nat ⊕ List St3 := goL stp87 .inr 0 (partsB 10 s).dropLast []
def prsT (s : ByteArray) : AV := bif decide (Int.ofNat s.size > 4096) then .tup [nilS, intA 0, intA 26] else match rows87 s with
  | .inl i => .tup [nilS, intA (Int.ofNat i), intA 25]
  | .inr rs => bif notNil (lastB s) then .tup [nilS, intA (Int.ofNat (partsB 10 s).dropLast.length), intA 25] else bif tblM rs != 0 then .tup [nilS, intA (Int.ofNat (partsB 10 s).dropLast.length), intA (tblM rs)] else .tup [slA stepC 3 rs, intA 0, intA 0]
def prsG : List AV → Option AV := sp1 strC fun s => bif Nat.ble s.size 4097 then some (prsT s) else none
theorem rows_len : ∀ (l : List ByteArray) (i : Nat) (acc rs : List St3), goL stp87 .inr i l acc = .inr rs → rs.length = acc.length + l.length
  | [], _, acc, rs, h => by simp only [goL, Sum.inr.injEq] at h; subst h; simp
  | w :: l, i, acc, rs, h => by
    rw [goL, stp87] at h
    cases hl : lineP w with
    | none => rw [hl] at h; simp at h
    | some v =>
      rw [hl] at h
      have := rows_len l (i + 1) (acc ++ [v]) rs h
      rw [this, List.length_append, List.length_cons]; simp; omega
end Go.Vm.S6
