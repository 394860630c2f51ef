/- first and when, of the program and of the reference. -/
import Derived.Test.YtbplbhcgcicgfaaGreatDoorS6Base
import Derived.Laws.BitsLemmas
namespace Go.Vm.S6
open Go.Proofs Go.RowKit

theorem wrap_in {n : Int} (h1 : -9223372036854775808 ≤ n) (h2 : n < 9223372036854775808) : IntKind.i64.wrap n = n := by
  rw [IntKind.wrap_i64]; omega
theorem wrap_succ {i : Nat} (h : i + 1 < 9223372036854775808) : IntKind.i64.wrap (Int.ofNat i + 1) = Int.ofNat (i + 1) := by
  rw [wrap_in] <;> simp <;> omega
abbrev two63 : Nat := 9223372036854775807
theorem wrap_ix {i n : Nat} (hi : i < n) (hl : n < two63) : IntKind.i64.wrap (Int.ofNat i + 1) = Int.ofNat (i + 1) := wrap_succ (by unfold two63 at hl; omega)
theorem lt_of {i n : Nat} (h : i < n) : decide (Int.ofNat i < Int.ofNat n) = true := by simp; exact_mod_cast h
theorem lt_self (n : Nat) : decide (Int.ofNat n < Int.ofNat n) = false := by simp
theorem get_map {α β : Type} {l : List α} {i : Nat} {x : α} (f : α → β) (h : l[i]? = some x) : (l.map f)[i]? = some (f x) := by rw [List.getElem?_map, h]; rfl
theorem lt_len {α : Type} {l : List α} {i : Nat} {x : α} (h : l[i]? = some x) : i < l.length := (List.getElem?_eq_some_iff.1 h).1

/-! ### when -/
def whenM (b : Bool) (e : Int) : Int := bif b then e else 0
def whenG : List AV → Option AV := sp2 boolC intC fun b e => some (intA (whenM b e))
set_option maxRecDepth 100000 in
theorem r95 (S : Specs) (es : List AV) (ex : Bool) (n i : Nat) (x : Int) : roundD (CS S) 60 0 95 0 15 15 false (loopOf (CS S) 95 0) [5, 6, 7] [] [5, 6, 7] [] [2] [] [.rsl 1 es ex, intA (Int.ofNat n), intA (Int.ofNat i)] [] [.chk [intA x]] =
    (bif decide (Int.ofNat i < Int.ofNat n) then (.need (es[i]? = (some (AV.v (.int .i64 x)))) (bif x != 0 then (.need (EntClosed []) (.done (some ((.ret, [.v (.int .i64 x)], []))))) else (.need (EntClosed []) (.done (some ((.nrm, [.rsl 1 es ex, .v (.int .i64 (Int.ofNat n)), .v (.int .i64 (IntKind.i64.wrap (Int.ofNat i + 1)))], []))))))) else (.need (EntClosed []) (.done (some (((.exit 0), [.bad], [])))))) := by kernel_rfl
set_option maxRecDepth 100000 in
theorem t95r (S : Specs) (es : List AV) (ex : Bool) (x : Int) : evTreeD (CS S) 60 95 [.rsl 1 es ex] [.loop 0 [5, 6, 7] [] [2] [] .ret [intA x] []] =
    (.need (EntClosed [] ∧ EntClosed [] ∧ Says (CS S) 0 15 false (.loop (loopOf (CS S) 95 0)) (mkSt [5, 6, 7] [] 15 [.rsl 1 es ex, .v (.int .i64 (Int.ofNat es.length)), .v (.int .i64 0)] []) .ret (mkSt [2] [] 15 [.v (.int .i64 x)] [])) (.done (some (.v (.int .i64 x))))) := by kernel_rfl
set_option maxRecDepth 100000 in
theorem t95e (S : Specs) (es : List AV) (ex : Bool) : evTreeD (CS S) 60 95 [.rsl 1 es ex] [.loop 0 [5, 6, 7] [] [2] [] (.exit 0) [.bad] []] =
    (.need (EntClosed [] ∧ EntClosed [] ∧ Says (CS S) 0 15 false (.loop (loopOf (CS S) 95 0)) (mkSt [5, 6, 7] [] 15 [.rsl 1 es ex, .v (.int .i64 (Int.ofNat es.length)), .v (.int .i64 0)] []) (.exit 0) (mkSt [2] [] 15 [.bad] [])) (.done (some (.v (.int .i64 0))))) := by kernel_rfl
set_option maxRecDepth 100000 in
theorem r23 (S : Specs) (es : List AV) (ex : Bool) (i : Nat) (x : Int) : roundD (CS S) 60 0 23 0 19 19 false (loopOf (CS S) 23 0) [0, 3] [] [0, 3] [] [2] [] [.rsl 1 es ex, intA (Int.ofNat i)] [] [.chk [intA x], .chk [intA x]] =
    (bif decide (Int.ofNat i < Int.ofNat es.length) then (.need (es[i]? = (some (AV.v (.int .i64 x)))) (bif x != 0 then (.need (es[i]? = (some (AV.v (.int .i64 x)))) (.need (EntClosed []) (.done (some ((.ret, [.v (.int .i64 x)], [])))))) else (.need (EntClosed []) (.done (some ((.nrm, [.rsl 1 es ex, .v (.int .i64 (IntKind.i64.wrap (Int.ofNat i + 1)))], []))))))) else (.need (EntClosed []) (.done (some (((.exit 0), [.bad], [])))))) := by kernel_rfl
set_option maxRecDepth 100000 in
theorem t23r (S : Specs) (es : List AV) (ex : Bool) (x : Int) : evTreeD (CS S) 60 23 [.rsl 1 es ex] [.loop 0 [0, 3] [] [2] [] .ret [intA x] []] =
    (.need (EntClosed [] ∧ EntClosed [] ∧ Says (CS S) 0 19 false (.loop (loopOf (CS S) 23 0)) (mkSt [0, 3] [] 19 [.rsl 1 es ex, .v (.int .i64 0)] []) .ret (mkSt [2] [] 19 [.v (.int .i64 x)] [])) (.done (some (.v (.int .i64 x))))) := by kernel_rfl
set_option maxRecDepth 100000 in
theorem t23e (S : Specs) (es : List AV) (ex : Bool) : evTreeD (CS S) 60 23 [.rsl 1 es ex] [.loop 0 [0, 3] [] [2] [] (.exit 0) [.bad] []] =
    (.need (EntClosed [] ∧ EntClosed [] ∧ Says (CS S) 0 19 false (.loop (loopOf (CS S) 23 0)) (mkSt [0, 3] [] 19 [.rsl 1 es ex, .v (.int .i64 0)] []) (.exit 0) (mkSt [2] [] 19 [.bad] [])) (.done (some (.v (.int .i64 0))))) := by kernel_rfl
theorem when_holds {S : Specs} (hS : Ok S) {f : FuncId} (h : ∀ (b : Bool) (e : Int), evTreeD (CS S) 60 f [boolA b, intA e] [] = bif b then .done (some (intA e)) else .done (some (intA 0))) : Holds f whenG := holds2 fun b e r hr => by
  simp only [Option.some.injEq] at hr; subst hr
  refine hS.evD (d := 60) (hs := []) ?_
  show (evTreeD (CS S) 60 f [boolA b, intA e] []).ok _
  rw [h]
  unfold whenM
  cases b <;> rfl

/-! ### first -/
def firstM : List Int → Int
  | [] => 0
  | x :: r => bif x != 0 then x else firstM r
def firstF (l : List Int) : Option AV := bif Nat.blt l.length two63 then some (intA (firstM l)) else none
def firstG : List AV → Option AV := sp1 (listC intC 1) firstF

def firstStep (_ : Nat) (x : Int) (_ : Unit) : Unit ⊕ Option Int := bif x != 0 then .inr (some x) else .inl ()
def firstR (i : Nat) (l : List Int) : Option Int := goL firstStep (fun _ => none) i l ()
theorem firstR_eq : ∀ (l : List Int) (i : Nat), (firstR i l = none ∧ firstM l = 0) ∨ firstR i l = some (firstM l)
  | [], i => .inl ⟨rfl, rfl⟩
  | x :: r, i => by
    unfold firstR goL firstStep firstM
    cases h : x != 0 with
    | true => exact .inr rfl
    | false => exact firstR_eq r (i + 1)
def firstEx : Option Int → Ex
  | some _ => .ret
  | none => .exit 0
def firstOut (nf : Nat) : Option Int → St
  | some x => mkSt [2] [] nf [intA x] []
  | none => mkSt [2] [] nf [.bad] []

theorem loop95 {S : Specs} (hS : Ok S) (l : List Int) (ex : Bool) (hl : l.length < two63) :
    LoopRun (CS S) 0 15 false (loopOf (CS S) 95 0) (mkSt [5, 6, 7] [] 15 [.rsl 1 (l.map intA) ex, intA (Int.ofNat l.length), intA (Int.ofNat 0)] []) (firstEx (firstR 0 l)) (firstOut 15 (firstR 0 l)) := by
  refine LoopRun.list (step := firstStep) (fin := fun _ => none) (enc := fun i _ => mkSt [5, 6, 7] [] 15 [.rsl 1 (l.map intA) ex, intA (Int.ofNat l.length), intA (Int.ofNat i)] []) (ex := firstEx) (out := firstOut 15) (l := l) (fun _ _ => True)
    (fun i x _ hx _ => ?_) (fun _ _ => ⟨?_, by simp [firstEx]⟩) l [] () rfl trivial
  · have hi := lt_len hx
    unfold firstStep
    cases h : x != 0 with
    | true => exact ⟨hS.rndR (r95 S (l.map intA) ex l.length i x) (by rw [lt_of hi, h]; exact ⟨get_map _ hx, trivial, rfl⟩), by simp [firstEx]⟩
    | false => exact ⟨hS.rndN (r95 S (l.map intA) ex l.length i x) (by rw [lt_of hi, h, wrap_ix hi hl]; exact ⟨get_map _ hx, trivial, rfl⟩), trivial⟩
  · exact hS.rndX (r95 S (l.map intA) ex l.length l.length 0) (by rw [lt_self]; exact ⟨trivial, rfl⟩)

theorem first95 {S : Specs} (hS : Ok S) : Holds 95 firstG := holds1 fun l r hr => by
  unfold firstF at hr
  cases hb : Nat.blt l.length two63 with
  | false => simp [hb] at hr
  | true =>
    simp only [hb, cond_true, Option.some.injEq] at hr; subst hr
    have hl : l.length < two63 := Nat.le_of_ble_eq_true hb
    have h := (loop95 hS l false hl).says
    have e : Int.ofNat l.length = Int.ofNat (l.map intA).length := by simp
    rw [e] at h
    rcases firstR_eq l 0 with ⟨h1, h2⟩ | h1
    · rw [h1] at h; rw [h2]
      exact hS.tr (t95e S (l.map intA) false) ⟨⟨trivial, trivial, h⟩, rfl⟩
    · rw [h1] at h
      exact hS.tr (t95r S (l.map intA) false (firstM l)) ⟨⟨trivial, trivial, h⟩, rfl⟩

theorem loop23 {S : Specs} (hS : Ok S) (l : List Int) (ex : Bool) (hl : l.length < two63) :
    LoopRun (CS S) 0 19 false (loopOf (CS S) 23 0) (mkSt [0, 3] [] 19 [.rsl 1 (l.map intA) ex, intA (Int.ofNat 0)] []) (firstEx (firstR 0 l)) (firstOut 19 (firstR 0 l)) := by
  have e : Int.ofNat (l.map intA).length = Int.ofNat l.length := by simp
  refine LoopRun.list (step := firstStep) (fin := fun _ => none) (enc := fun i _ => mkSt [0, 3] [] 19 [.rsl 1 (l.map intA) ex, intA (Int.ofNat i)] []) (ex := firstEx) (out := firstOut 19) (l := l) (fun _ _ => True)
    (fun i x _ hx _ => ?_) (fun _ _ => ⟨?_, by simp [firstEx]⟩) l [] () rfl trivial
  · have hi := lt_len hx
    unfold firstStep
    cases h : x != 0 with
    | true => exact ⟨hS.rndR (r23 S (l.map intA) ex i x) (by rw [e, lt_of hi, h]; exact ⟨get_map _ hx, get_map _ hx, trivial, rfl⟩), by simp [firstEx]⟩
    | false => exact ⟨hS.rndN (r23 S (l.map intA) ex i x) (by rw [e, lt_of hi, h, wrap_ix hi hl]; exact ⟨get_map _ hx, trivial, rfl⟩), trivial⟩
  · exact hS.rndX (r23 S (l.map intA) ex l.length 0) (by rw [e, lt_self]; exact ⟨trivial, rfl⟩)

theorem first23 {S : Specs} (hS : Ok S) : Holds 23 firstG := holds1 fun l r hr => by
  unfold firstF at hr
  cases hb : Nat.blt l.length two63 with
  | false => simp [hb] at hr
  | true =>
    simp only [hb, cond_true, Option.some.injEq] at hr; subst hr
    have hl : l.length < two63 := Nat.le_of_ble_eq_true hb
    have h := (loop23 hS l false hl).says
    rcases firstR_eq l 0 with ⟨h1, h2⟩ | h1
    · rw [h1] at h; rw [h2]
      exact hS.tr (t23e S (l.map intA) false) ⟨⟨trivial, trivial, h⟩, rfl⟩
    · rw [h1] at h
      exact hS.tr (t23r S (l.map intA) false (firstM l)) ⟨⟨trivial, trivial, h⟩, rfl⟩
end Go.Vm.S6

namespace Go.Vm.S6
open Go.Proofs Go.RowKit
set_option maxRecDepth 100000 in
theorem t101 (S : Specs) (b : Bool) (e : Int) : evTreeD (CS S) 60 101 [boolA b, intA e] [] =
    (bif b then (.done (some (.v (.int .i64 e)))) else (.done (some (.v (.int .i64 0))))) := by kernel_rfl
set_option maxRecDepth 100000 in
theorem t29 (S : Specs) (b : Bool) (e : Int) : evTreeD (CS S) 60 29 [boolA b, intA e] [] =
    (bif b then (.done (some (.v (.int .i64 e)))) else (.done (some (.v (.int .i64 0))))) := by kernel_rfl
def S1 : Specs := ((((SL.set 101 whenG).set 29 whenG).set 95 firstG).set 23 firstG)
theorem S1_ok : Ok S1 := ((((SL_ok.set (when_holds SL_ok (t101 SL))).set (when_holds SL_ok (t29 SL))).set (first95 SL_ok)).set (first23 SL_ok))
end Go.Vm.S6

namespace Go.Vm.S6
open Go.Proofs Go.RowKit
set_option maxRecDepth 100000 in
theorem t115 (n lo hi : Int) : evTreeD (CS S1) 60 115 [intA n, intA lo, intA hi] [] =
    (bif decide (n < lo) then (.done (some (.v (.int .i64 (whenM true 3))))) else (.done (some (.v (.int .i64 (whenM (bif false then true else decide (n > hi)) 3)))))) := by kernel_rfl
set_option maxRecDepth 100000 in
theorem t42 (n lo hi : Int) : evTreeD (CS S1) 60 42 [intA n, intA lo, intA hi] [] =
    (bif decide (n < lo) then (.done (some (.v (.int .i64 (whenM true 3))))) else (.done (some (.v (.int .i64 (whenM (bif false then true else decide (n > hi)) 3)))))) := by kernel_rfl
def withinM (n lo hi : Int) : Int := whenM (decide (n < lo) || decide (n > hi)) 3
def withinG : List AV → Option AV := sp3 intC intC intC fun n lo hi => some (intA (withinM n lo hi))
theorem within_holds {f : FuncId} (h : ∀ (n lo hi : Int), evTreeD (CS S1) 60 f [intA n, intA lo, intA hi] [] = (bif decide (n < lo) then (.done (some (intA (whenM true 3)))) else (.done (some (intA (whenM (bif false then true else decide (n > hi)) 3)))))) : Holds f withinG := holds3 fun n lo hi r hr => by
  simp only [Option.some.injEq] at hr; subst hr
  refine S1_ok.tr (h n lo hi) ?_
  unfold withinM
  cases decide (n < lo)
  · rw [Bool.false_or]; rfl
  · rfl
def S2 : Specs := ((S1.set 115 withinG).set 42 withinG)
theorem S2_ok : Ok S2 := ((S1_ok.set (within_holds t115)).set (within_holds t42))
end Go.Vm.S6
