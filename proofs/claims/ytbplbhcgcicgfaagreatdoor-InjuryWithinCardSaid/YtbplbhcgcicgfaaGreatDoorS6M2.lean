/- Margins and risks. -/
import Derived.Test.YtbplbhcgcicgfaaGreatDoorS6M1
namespace Go.Vm.S6
open Go.Proofs Go.RowKit
set_option maxRecDepth 100000 in
theorem r63a (a b c d x y : Int) (o : Bool) : roundD (CS M1) 60 0 63 0 30 30 false (loopOf (CS M1) 63 0) [2, 3, 18, 19] [2, 3] [2, 3, 18, 19] [2, 3] [4, 5] [] [.ptr 2 0 0, .ptr 3 1 0, .agg sidesA, intA 0] [(false, .box [intA a, intA b, intA c, intA d, boolA o]), (false, .box [intA x, intA y])] [] =
    (bif below (a, b, c, d, o) (x, y) then (.need (EntClosed []) (.done (some ((.ret, [intA (-1), intA 0], []))))) else (.need (EntClosed [(false, .box [intA a, intA b, intA c, intA d, boolA o]), (false, .box [intA x, intA y])]) (.done (some ((.nrm, [.ptr 2 0 0, .ptr 3 1 0, .agg [intA (-1), .fn (Fn.func 247) [] [], intA 1, .fn (Fn.func 248) [] []], intA (IntKind.i64.wrap (0 + 1))], [(false, .box [intA a, intA b, intA c, intA d, boolA o]), (false, .box [intA x, intA y])])))))) := by kernel_rfl
set_option maxRecDepth 100000 in
theorem r63b (a b c d x y : Int) (o : Bool) : roundD (CS M1) 60 0 63 0 30 30 false (loopOf (CS M1) 63 0) [2, 3, 18, 19] [2, 3] [2, 3, 18, 19] [2, 3] [4, 5] [] [.ptr 2 0 0, .ptr 3 1 0, .agg sidesA, intA 1] [(false, .box [intA a, intA b, intA c, intA d, boolA o]), (false, .box [intA x, intA y])] [] =
    (bif beyond (a, b, c, d, o) (x, y) then (.need (EntClosed []) (.done (some ((.ret, [intA 1, intA 0], []))))) else (.need (EntClosed [(false, .box [intA a, intA b, intA c, intA d, boolA o]), (false, .box [intA x, intA y])]) (.done (some ((.nrm, [.ptr 2 0 0, .ptr 3 1 0, .agg [intA (-1), .fn (Fn.func 247) [] [], intA 1, .fn (Fn.func 248) [] []], intA (IntKind.i64.wrap (1 + 1))], [(false, .box [intA a, intA b, intA c, intA d, boolA o]), (false, .box [intA x, intA y])])))))) := by kernel_rfl
set_option maxRecDepth 100000 in
theorem r63c (a b c d x y : Int) (o : Bool) : roundD (CS M1) 60 0 63 0 30 30 false (loopOf (CS M1) 63 0) [2, 3, 18, 19] [2, 3] [2, 3, 18, 19] [2, 3] [4, 5] [] [.ptr 2 0 0, .ptr 3 1 0, .agg sidesA, intA 2] [(false, .box [intA a, intA b, intA c, intA d, boolA o]), (false, .box [intA x, intA y])] [] =
    (.need (EntClosed []) (.done (some (((.exit 0), [.bad, .bad], []))))) := by kernel_rfl
set_option maxRecDepth 100000 in
theorem t63r (a b c d x y m : Int) (o : Bool) : evTreeD (CS M1) 60 63 [.agg [intA a, intA b, intA c, intA d, boolA o], .agg [intA x, intA y]] [.br [] [.loop 0 [2, 3, 18, 19] [2, 3] [4, 5] [] .ret [intA m, intA 0] []]] =
    (bif firstM [bdErr (a, b, c, d, o), ratErr (x, y)] != 0 then (.done (some (.tup [intA 0, intA (firstM [bdErr (a, b, c, d, o), ratErr (x, y)])]))) else (.need (EntClosed [(false, .box [intA a, intA b, intA c, intA d, boolA o]), (false, .box [intA x, intA y])] ∧ EntClosed [] ∧ Says (CS M1) 0 30 false (.loop (loopOf (CS M1) 63 0)) (mkSt [2, 3, 18, 19] [2, 3] 30 [.ptr 2 0 0, .ptr 3 1 0, .agg [intA (-1), .fn (Fn.func 247) [] [], intA 1, .fn (Fn.func 248) [] []], intA 0] [(false, .box [intA a, intA b, intA c, intA d, boolA o]), (false, .box [intA x, intA y])]) .ret (mkSt [4, 5] [] 30 [intA m, intA 0] [])) (.done (some (.tup [intA m, intA 0]))))) := by kernel_rfl
set_option maxRecDepth 100000 in
theorem t63e (a b c d x y : Int) (o : Bool) : evTreeD (CS M1) 60 63 [.agg [intA a, intA b, intA c, intA d, boolA o], .agg [intA x, intA y]] [.br [] [.loop 0 [2, 3, 18, 19] [2, 3] [4, 5] [] (.exit 0) [.bad, .bad] []]] =
    (bif firstM [bdErr (a, b, c, d, o), ratErr (x, y)] != 0 then (.done (some (.tup [intA 0, intA (firstM [bdErr (a, b, c, d, o), ratErr (x, y)])]))) else (.need (EntClosed [(false, .box [intA a, intA b, intA c, intA d, boolA o]), (false, .box [intA x, intA y])] ∧ EntClosed [] ∧ Says (CS M1) 0 30 false (.loop (loopOf (CS M1) 63 0)) (mkSt [2, 3, 18, 19] [2, 3] 30 [.ptr 2 0 0, .ptr 3 1 0, .agg [intA (-1), .fn (Fn.func 247) [] [], intA 1, .fn (Fn.func 248) [] []], intA 0] [(false, .box [intA a, intA b, intA c, intA d, boolA o]), (false, .box [intA x, intA y])]) (.exit 0) (mkSt [4, 5] [] 30 [.bad, .bad] [])) (.done (some (.tup [intA 0, intA 0]))))) := by kernel_rfl
set_option maxRecDepth 100000 in
theorem t64 (es : List AV) (x y e r : Int) : evTreeD (CS M1) 60 64 [.rsl 3 es false, .agg [intA x, intA y]] [.sp [.rsl 3 es false] (intA e), .br [] [.sp [.rsl 3 es false, .agg [intA x, intA y]] (intA r)]] =
    (.need (([.rsl 3 es false] : List AV) = ([.rsl 3 es false] : List AV) ∧ (Cx.spec (CS M1) 141 ([.rsl 3 es false] : List AV)) = (some (AV.v (.int .i64 e)))) (bif firstM [e, ratErr (x, y)] != 0 then (.done (some (.tup [intA 0, intA (firstM [e, ratErr (x, y)])]))) else (.need (([.rsl 3 es false, .agg [intA x, intA y]] : List AV) = ([.rsl 3 es false, .agg [intA x, intA y]] : List AV) ∧ (Cx.spec (CS M1) 142 ([.rsl 3 es false, .agg [intA x, intA y]] : List AV)) = (some (AV.v (.int .i64 r)))) (.done (some (.tup [intA r, intA 0])))))) := by kernel_rfl
set_option maxRecDepth 100000 in
theorem t66 (es : List AV) (a b c d e r1 r2 k1 k2 k3 : Int) (o : Bool) (j : Nat) : evTreeD (CS M1) 60 66 [.rsl 3 es false, .agg [intA a, intA b, intA c, intA d, boolA o]] [.sp [.rsl 3 es false] (intA e), .br [] [.sp [.rsl 3 es false, .agg [intA a, intA b]] (intA r1), .sp [.rsl 3 es false, .agg [intA c, intA d]] (intA r2), .br [.ar (intA (Int.ofNat j)), .chk [.agg [intA k1, intA k2, intA k3]]] []]] =
    (.need (([.rsl 3 es false] : List AV) = ([.rsl 3 es false] : List AV) ∧ (Cx.spec (CS M1) 141 ([.rsl 3 es false] : List AV)) = (some (AV.v (.int .i64 e)))) (bif firstM [e, bdErr (a, b, c, d, o)] != 0 then (.done (some (.tup [.agg [intA 0, intA 0], intA (firstM [e, bdErr (a, b, c, d, o)])]))) else (.need (([.rsl 3 es false, .agg [intA a, intA b]] : List AV) = ([.rsl 3 es false, .agg [intA a, intA b]] : List AV) ∧ (Cx.spec (CS M1) 142 ([.rsl 3 es false, .agg [intA a, intA b]] : List AV)) = (some (AV.v (.int .i64 r1)))) (.need (([.rsl 3 es false, .agg [intA c, intA d]] : List AV) = ([.rsl 3 es false, .agg [intA c, intA d]] : List AV) ∧ (Cx.spec (CS M1) 142 ([.rsl 3 es false, .agg [intA c, intA d]] : List AV)) = (some (AV.v (.int .i64 r2)))) (bif o then (.need ((abin (CS M1) BinOp.sub 3 (Operand.tmp 31) (Operand.const (Value.int IntKind.i64 1)) (AV.v (.int .i64 (Int.ofNat es.length))) (AV.v (.int .i64 1))) = (some (AV.v (.int .i64 (Int.ofNat j))))) (.need (es[j]? = (some (AV.agg [intA k1, intA k2, intA k3]))) (.done (some (.tup [.agg [intA r1, intA k3], intA 0]))))) else (.done (some (.tup [.agg [intA r1, intA r2], intA 0])))))))) := by kernel_rfl
def sbL (b : Bd) (x : P2) : List (Bool × Blk) := [(false, .box [intA b.1, intA b.2.1, intA b.2.2.1, intA b.2.2.2.1, boolA b.2.2.2.2]), (false, .box [intA x.1, intA x.2])]
def sbS (b : Bd) (x : P2) (i : Int) : St := mkSt [2, 3, 18, 19] [2, 3] 30 [.ptr 2 0 0, .ptr 3 1 0, .agg sidesA, intA i] (sbL b x)
theorem sides1 {b : Bd} {x : P2} (h : below b x = true) : LoopRun (CS M1) 0 30 false (loopOf (CS M1) 63 0) (sbS b x 0) .ret (mkSt [4, 5] [] 30 [intA (-1), intA 0] []) :=
  .done (M1_ok.rndR (r63a b.1 b.2.1 b.2.2.1 b.2.2.2.1 x.1 x.2 b.2.2.2.2) (by rw [show below (b.1, b.2.1, b.2.2.1, b.2.2.2.1, b.2.2.2.2) (x.1, x.2) = true from h]; exact ⟨trivial, rfl⟩)) (by simp)
theorem sides0 {b : Bd} {x : P2} (h : below b x = false) : Says (CS M1) 0 30 false (loopOf (CS M1) 63 0) (sbS b x 0) .nrm (sbS b x 1) :=
  M1_ok.rndN (r63a b.1 b.2.1 b.2.2.1 b.2.2.2.1 x.1 x.2 b.2.2.2.2) (by rw [show below (b.1, b.2.1, b.2.2.1, b.2.2.2.1, b.2.2.2.2) (x.1, x.2) = false from h]; exact ⟨trivial, rfl⟩)
theorem sides2 {b : Bd} {x : P2} (h : beyond b x = true) : LoopRun (CS M1) 0 30 false (loopOf (CS M1) 63 0) (sbS b x 1) .ret (mkSt [4, 5] [] 30 [intA 1, intA 0] []) :=
  .done (M1_ok.rndR (r63b b.1 b.2.1 b.2.2.1 b.2.2.2.1 x.1 x.2 b.2.2.2.2) (by rw [show beyond (b.1, b.2.1, b.2.2.1, b.2.2.2.1, b.2.2.2.2) (x.1, x.2) = true from h]; exact ⟨trivial, rfl⟩)) (by simp)
theorem sides3 {b : Bd} {x : P2} (h : beyond b x = false) : LoopRun (CS M1) 0 30 false (loopOf (CS M1) 63 0) (sbS b x 1) (.exit 0) (mkSt [4, 5] [] 30 [.bad, .bad] []) :=
  .step (M1_ok.rndN (vs1 := [.ptr 2 0 0, .ptr 3 1 0, .agg sidesA, intA 2]) (es1 := sbL b x) (r63b b.1 b.2.1 b.2.2.1 b.2.2.2.1 x.1 x.2 b.2.2.2.2) (by rw [show beyond (b.1, b.2.1, b.2.2.1, b.2.2.2.1, b.2.2.2.2) (x.1, x.2) = false from h]; exact ⟨trivial, rfl⟩))
    (.done (M1_ok.rndX (r63c b.1 b.2.1 b.2.2.1 b.2.2.2.1 x.1 x.2 b.2.2.2.2) ⟨trivial, rfl⟩) (by simp))
def mErr (b : Bd) (x : P2) : Int := firstM [bdErr b, ratErr x]
def pmaM (b : Bd) (x : P2) : AV := .tup [intA (bif mErr b x == 0 then marM b x else 0), intA (mErr b x)]
def pmaG : List AV → Option AV := sp2 bdC p2C fun b x => some (pmaM b x)
theorem h63 : Holds 63 pmaG := holds2 fun b x r hr => by
  simp only [Option.some.injEq] at hr; subst hr
  have eE : firstM [bdErr (b.1, b.2.1, b.2.2.1, b.2.2.2.1, b.2.2.2.2), ratErr (x.1, x.2)] = mErr b x := rfl
  unfold pmaM
  cases hq : mErr b x == 0 with
  | false =>
    have := t63e b.1 b.2.1 b.2.2.1 b.2.2.2.1 x.1 x.2 b.2.2.2.2
    rw [eE, bnz, hq] at this
    exact M1_ok.tr this rfl
  | true =>
    have h0 : mErr b x = 0 := by simpa using hq
    have hr := t63r b.1 b.2.1 b.2.2.1 b.2.2.2.1 x.1 x.2 (marM b x) b.2.2.2.2
    have he := t63e b.1 b.2.1 b.2.2.1 b.2.2.2.1 x.1 x.2 b.2.2.2.2
    rw [eE, bnz, hq] at hr he
    rw [h0]
    cases h1 : below b x with
    | true =>
      have hm : marM b x = -1 := by unfold marM; rw [show (!ovB b && decide (cmpW (hiB b) x < 0)) = true from h1]; rfl
      rw [hm] at hr ⊢
      exact M1_ok.tr hr ⟨⟨trivial, trivial, (sides1 h1).says⟩, rfl⟩
    | false =>
      have hm : marM b x = bif beyond b x then 1 else 0 := by unfold marM; rw [show (!ovB b && decide (cmpW (hiB b) x < 0)) = false from h1]; rfl
      cases h2 : beyond b x with
      | true =>
        rw [h2] at hm
        rw [hm] at hr ⊢
        exact M1_ok.tr hr ⟨⟨trivial, trivial, (LoopRun.step (sides0 h1) (sides2 h2)).says⟩, rfl⟩
      | false =>
        rw [h2] at hm
        rw [hm]
        exact M1_ok.tr he ⟨⟨trivial, trivial, (LoopRun.step (sides0 h1) (sides3 h2)).says⟩, rfl⟩
/-! ### Risks -/
theorem specTbl {l : List St3} (h : Nat.ble l.length lim = true) : tblG [slA stepC 3 l] = some (intA (tblM l)) := by
  have h1 := sp1_at (A := stepsC) (F := fun l => bif Nat.ble l.length lim then some (intA (tblM l)) else none) l
  rw [h] at h1; exact h1
theorem specRsk {l : List St3} {x : P2} (h : Nat.ble l.length lim = true) : rskG [slA stepC 3 l, p2A x] = some (intA (rskM l x)) := specAt2 (A := stepsC) (B := p2C) (b := fun l _ => Nat.ble l.length lim) (F := fun l x => intA (rskM l x)) l x h
def rErr (l : List St3) (x : P2) : Int := firstM [tblM l, ratErr x]
def prkM (l : List St3) (x : P2) : AV := .tup [intA (bif rErr l x == 0 then rskM l x else 0), intA (rErr l x)]
def prkG : List AV → Option AV := sp2 stepsC p2C fun l x => bif Nat.ble l.length lim then some (prkM l x) else none
theorem h64 : Holds 64 prkG := holds2 fun l x r hr => by
  cases hb : Nat.ble l.length lim with
  | false => simp [hb] at hr
  | true =>
    simp only [hb, cond_true, Option.some.injEq] at hr; subst hr
    have ht := t64 (l.map stepC.enc) x.1 x.2 (tblM l) (rskM l x)
    rw [show firstM [tblM l, ratErr (x.1, x.2)] = rErr l x from rfl, bnz] at ht
    unfold prkM
    cases hq : rErr l x == 0 with
    | false => rw [hq] at ht; exact M1_ok.tr ht ⟨⟨rfl, specTbl hb⟩, rfl⟩
    | true =>
      rw [hq] at ht
      rw [show rErr l x = 0 by simpa using hq]
      exact M1_ok.tr ht ⟨⟨rfl, specTbl hb⟩, ⟨rfl, specRsk hb⟩, rfl⟩
def lastR (l : List St3) : Int := match l[l.length - 1]? with
  | some s => s.2.2
  | none => 0
def rbM (l : List St3) (b : Bd) : P2 := (rskM l (loB b), bif ovB b then lastR l else rskM l (hiB b))
theorem last_at {l : List St3} (h : (!l.isEmpty) = true) : ∃ s, l[l.length - 1]? = some s ∧ lastR l = s.2.2 ∧ 1 ≤ l.length := by
  have hl : 1 ≤ l.length := by cases l with
    | nil => cases h
    | cons => simp
  refine ⟨_, List.getElem?_eq_getElem (show l.length - 1 < l.length by omega), ?_, hl⟩
  unfold lastR
  rw [List.getElem?_eq_getElem (show l.length - 1 < l.length by omega)]
theorem sub1' {n : Nat} (h1 : 1 ≤ n) (h : n < two63) : IntKind.i64.wrap (Int.ofNat n - 1) = Int.ofNat (n - 1) := by
  obtain ⟨j, rfl⟩ : ∃ j, n = j + 1 := ⟨n - 1, by omega⟩
  exact sub1 h
def rbErr (l : List St3) (b : Bd) : Int := firstM [tblM l, bdErr b]
def prbM (l : List St3) (b : Bd) : AV := .tup [p2A (bif rbErr l b == 0 then rbM l b else (0, 0)), intA (rbErr l b)]
def prbG : List AV → Option AV := sp2 stepsC bdC fun l b => bif Nat.ble l.length lim then some (prbM l b) else none
theorem tblZ {l : List St3} (h : tblM l = 0) : (!l.isEmpty) = true := by
  cases l with
  | nil => cases h
  | cons => rfl
theorem h66 : Holds 66 prbG := holds2 fun l b r hr => by
  cases hb : Nat.ble l.length lim with
  | false => simp [hb] at hr
  | true =>
    simp only [hb, cond_true, Option.some.injEq] at hr; subst hr
    have hl := limTwo (Nat.le_of_ble_eq_true hb)
    unfold prbM
    cases hq : rbErr l b == 0 with
    | false =>
      have ht := t66 (l.map stepC.enc) b.1 b.2.1 b.2.2.1 b.2.2.2.1 (tblM l) 0 0 0 0 0 b.2.2.2.2 0
      rw [show firstM [tblM l, bdErr (b.1, b.2.1, b.2.2.1, b.2.2.2.1, b.2.2.2.2)] = rbErr l b from rfl, bnz, hq] at ht
      exact M1_ok.tr ht ⟨⟨rfl, specTbl hb⟩, rfl⟩
    | true =>
      have h0 : rbErr l b = 0 := by simpa using hq
      have hz := h0
      unfold rbErr at hz
      rw [firstZ] at hz
      obtain ⟨s, hs, hlr, hl1⟩ := last_at (tblZ hz.1)
      have hsub := sub_ok M1 (.tmp 31) (.const (.int .i64 1)) (Int.ofNat l.length) 1
      rw [sub1' hl1 hl] at hsub
      rw [← e_len' stepC l] at hsub
      rw [h0]
      obtain ⟨a, b', c, d, o⟩ := b
      have he : (rbErr l (a, b', c, d, o) != 0) = false := by rw [h0]; rfl
      unfold rbM
      cases o with
      | true =>
        have ht := t66 (l.map stepC.enc) a b' c d (tblM l) (rskM l (a, b')) (rskM l (c, d)) s.1 s.2.1 s.2.2 true (l.length - 1)
        rw [show firstM [tblM l, bdErr (a, b', c, d, true)] = rbErr l (a, b', c, d, true) from rfl, he] at ht
        rw [hlr]
        exact M1_ok.tr ht ⟨⟨rfl, specTbl hb⟩, ⟨rfl, specRsk (x := (a, b')) hb⟩, ⟨rfl, specRsk (x := (c, d)) hb⟩, hsub, get_map _ hs, rfl⟩
      | false =>
        have ht := t66 (l.map stepC.enc) a b' c d (tblM l) (rskM l (a, b')) (rskM l (c, d)) s.1 s.2.1 s.2.2 false (l.length - 1)
        rw [show firstM [tblM l, bdErr (a, b', c, d, false)] = rbErr l (a, b', c, d, false) from rfl, he] at ht
        exact M1_ok.tr ht ⟨⟨rfl, specTbl hb⟩, ⟨rfl, specRsk (x := (a, b')) hb⟩, ⟨rfl, specRsk (x := (c, d)) hb⟩, rfl⟩
def M2 : Specs := (((M1.set 63 pmaG).set 64 prkG).set 66 prbG)
theorem M2_ok : Ok M2 := (((M1_ok.set h63).set h64).set h66)
end Go.Vm.S6
