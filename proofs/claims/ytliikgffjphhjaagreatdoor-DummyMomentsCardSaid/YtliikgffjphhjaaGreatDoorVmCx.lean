/- A small evaluator over abstract values: a program's tables. -/
import Derived.Test.YtliikgffjphhjaaGreatDoorVmCodeD
import Derived.KernelRfl
namespace Go.Vm

def isAggB : TypeDesc → Bool
  | .struct _ => true
  | .array _ _ => true
  | _ => false

def tyOf (P : Program) (t : TypeId) : Option TI :=
  match P.underlying t, P.info? t with
  | some d, some i => some { desc := d, size := i.size, agg := isAggD d, bytes := i.bytes, zero := i.zero }
  | _, _ => none

def fnOf (P : Program) (f : FuncId) : Option FI :=
  match P.funcs[f]? with
  | some { body := some c, ntmps, results, .. } => some { ntmps, results := results.toList, body := c }
  | _ => none

/-- The table of the regions that draw their order: by function and region. -/
def drawOf (D : Tr (Tr (List DI))) (f : FuncId) (id : Nat) : Option (List DI) :=
  match D.get f with
  | some T => T.get id
  | none => none

def codeOkB (D : Tr (Tr (List DI))) (f : FuncId) : Code → Bool
  | .region id ops dr => bif dr then (match drawOf D f id with | some is => drawOk ops is | none => true) else true
  | .seq a b => codeOkB D f a && codeOkB D f b
  | .cond _ a b => codeOkB D f a && codeOkB D f b
  | .block _ c => codeOkB D f c
  | .loop c => codeOkB D f c
  | .scope c => codeOkB D f c
  | .rangeFunc _ _ a b => codeOkB D f a && codeOkB D f b
  | _ => true

def fnOkB (P : Program) (D : Tr (Tr (List DI))) (f : FuncId) : Bool :=
  match P.funcs[f]? with
  | some { body := some c, name, .. } => decide (name ≠ "runtime.NumGoroutine") && codeOkB D f c
  | _ => true

def fnsOkB (P : Program) (D : Tr (Tr (List DI))) : Nat → Bool
  | 0 => true
  | n + 1 => bif fnOkB P D n then fnsOkB P D n else false

/-- What is known to be written no more ahead of a region: by function and region. -/
def preOf (D : Tr (Tr (List Tmp))) (f : FuncId) (id : Nat) : List Tmp :=
  match D.get f with
  | some T => (match T.get id with | some l => l | none => [])
  | none => []

theorem codeOkB_ok {C : Cx} {D : Tr (Tr (List DI))} (hC : C.draw = drawOf D) {f : FuncId} : ∀ {c : Code}, codeOkB D f c = true → CodeOk C drawOk f c
  | .region id ops dr, h => by
    cases dr with
    | false => trivial
    | true =>
      intro is his
      rw [hC] at his
      simp only [codeOkB, cond_true, his] at h
      exact h
  | .seq a b, h => by simp only [codeOkB, Bool.and_eq_true] at h; exact ⟨codeOkB_ok hC h.1, codeOkB_ok hC h.2⟩
  | .cond _ a b, h => by simp only [codeOkB, Bool.and_eq_true] at h; exact ⟨codeOkB_ok hC h.1, codeOkB_ok hC h.2⟩
  | .block _ c, h => by simp only [codeOkB] at h; exact codeOkB_ok (c := c) hC h
  | .loop c, h => by simp only [codeOkB] at h; exact codeOkB_ok (c := c) hC h
  | .scope c, h => by simp only [codeOkB] at h; exact codeOkB_ok (c := c) hC h
  | .rangeFunc _ _ a b, h => by simp only [codeOkB, Bool.and_eq_true] at h; exact ⟨codeOkB_ok hC h.1, codeOkB_ok hC h.2⟩
  | .skip, _ => trivial
  | .label _, _ => trivial
  | .exit _, _ => trivial
  | .ret, _ => trivial
  | .goto _, _ => trivial
  | .refuse _, _ => trivial

theorem fnsOkB_at {P : Program} {D : Tr (Tr (List DI))} : ∀ {n : Nat}, fnsOkB P D n = true → ∀ f, f < n → fnOkB P D f = true
  | 0, _, f, hf => by omega
  | n + 1, h, f, hf => by
    simp only [fnsOkB] at h
    cases hn : fnOkB P D n with
    | false => simp [hn] at h
    | true =>
      simp only [hn, cond_true] at h
      by_cases hfn : f = n
      · subst hfn; exact hn
      · exact fnsOkB_at h f (by omega)

theorem fnOk_of {C : Cx} {D : Tr (Tr (List DI))} (hf : C.fn = fnOf C.P) (hC : C.draw = drawOf D) (h : fnsOkB C.P D C.P.funcs.size = true) : FnOk C drawOk := by
  intro f fi hfi
  rw [hf] at hfi
  unfold fnOf at hfi
  split at hfi
  · rename_i nm x1 x2 x3 x4 c x5 nt rs x6 x7 hx
    simp only [Option.some.injEq] at hfi; subst hfi
    have hlt : f < C.P.funcs.size := (Array.getElem?_eq_some_iff.1 hx).1
    have hk := fnsOkB_at h f hlt
    unfold fnOkB at hk
    rw [hx] at hk
    simp only [Bool.and_eq_true, decide_eq_true_eq] at hk
    exact ⟨_, hx, rfl, rfl, rfl, hk.1, codeOkB_ok hC hk.2⟩
  · cases hfi

theorem tyOk_of {C : Cx} (h : C.ty = tyOf C.P) : TyOk C := by
  intro t ti ht
  rw [h] at ht
  unfold tyOf at ht
  split at ht
  · rename_i d i hd hi
    simp only [Option.some.injEq] at ht; subst ht
    exact ⟨hd, rfl, i, hi, rfl, rfl, rfl⟩
  · cases ht

def keepOf (D : Tr (List Tmp)) (f : FuncId) : List Tmp := match D.get f with
  | some l => l
  | none => []

/-- A program with its tables. -/
structure Tabs where
  D : Tr (Tr (List DI))
  D2 : Tr (Tr (List Tmp))
  D3 : Tr (List Tmp)
  glob : Nat → Option (List AV)
def Tabs.bare (glob : Nat → Option (List AV)) : Tabs := ⟨.leaf, .leaf, .leaf, glob⟩

def mkCx (P : Program) (B : Tabs) (fuel : Nat) (mode : FuncId → Md) (spec : FuncId → List AV → Option AV) : Cx :=
  Cx.mk P (tyOf P) (fnOf P) mode spec B.glob fuel (drawOf B.D) (preOf B.D2) (keepOf B.D3)

section
variable {P : Program} {B : Tabs} {fuel : Nat} {mode : FuncId → Md} {spec : FuncId → List AV → Option AV}
theorem mkCx_ty : TyOk (mkCx P B fuel mode spec) := tyOk_of rfl
theorem mkCx_fn {n : Nat} (hn : P.funcs.size = n) (h : fnsOkB P B.D n = true) : FnOk (mkCx P B fuel mode spec) drawOk := fnOk_of (D := B.D) rfl rfl (by subst hn; exact h)

theorem mkCx_sound {n : Nat} (hn : P.funcs.size = n) (hf : fnsOkB P B.D n = true) (hmix : P.follows .mixedOrders = true) (hsp : SpecOk (mkCx P B fuel mode spec)) {d : Nat} {f : FuncId} {l : List AV} {r : AV}
    (h : evTree (mkCx P B fuel mode spec) d f l = some r) : Enters P f ∧ Computes (mkCx P B fuel mode spec) f l r :=
  ev_sound mkCx_ty (mkCx_fn hn hf) hsp hmix h

/-! ### Specifications, one behind another -/
abbrev Specs := Tr (List AV → Option AV)

def specT (S : Specs) (f : FuncId) (l : List AV) : Option AV := match S.get f with
  | some g => g l
  | none => none
def modeS (S : Specs) (I : Tr Md) (f : FuncId) : Md := match S.get f with
  | some _ => .spec
  | none => match I.get f with
    | some m => m
    | none => .tree

/-- A specification holds. -/
def Holds1 (P : Program) (glob : Nat → Option (List AV)) (f : FuncId) (g : List AV → Option AV) : Prop :=
  ∀ l r, g l = some r → Enters P f ∧ Computes (mkCx P (Tabs.bare glob) 0 (fun _ => .tree) (fun _ _ => none)) f l r
def SpecsOk (P : Program) (glob : Nat → Option (List AV)) (S : Specs) : Prop := ∀ f g, S.get f = some g → Holds1 P glob f g

theorem SpecsOk.leaf {glob : Nat → Option (List AV)} : SpecsOk P glob .leaf := fun f g h => by rw [Tr.get_leaf] at h; cases h
theorem SpecsOk.set {glob : Nat → Option (List AV)} {S : Specs} (h : SpecsOk P glob S) {f : FuncId} {g : List AV → Option AV} (hg : Holds1 P glob f g) : SpecsOk P glob (S.set f g) := fun f' g' h' => by
  rcases Tr.get_set h' with ⟨rfl, rfl⟩ | ⟨_, h'⟩
  · exact hg
  · exact h f' g' h'
theorem SpecsOk.specOk {S : Specs} (h : SpecsOk P B.glob S) : SpecOk (mkCx P B fuel mode (specT S)) := fun f l r _ hr => by
  have hr : specT S f l = some r := hr
  unfold specT at hr
  split at hr
  · rename_i g hg
    exact h f g hg l r hr
  · cases hr

/-! ### What is known may be said with less -/
def Weak (a b : AV) : Prop := ∀ (M : Mem) (y : Value), Rep M a y → Rep M b y
def WeakL (as bs : List AV) : Prop := ∀ (M : Mem) (ys : List Value), RepL M as ys → RepL M bs ys
theorem Weak.rfl {a : AV} : Weak a a := fun _ _ h => h
theorem WeakL.nil : WeakL [] [] := fun _ _ h => h
theorem WeakL.cons {a b : AV} {as bs : List AV} (h : Weak a b) (k : WeakL as bs) : WeakL (a :: as) (b :: bs) := fun M ys hr => by
  rw [RepL.cons_iff] at hr ⊢
  obtain ⟨x, xs, e, h1, h2⟩ := hr
  exact ⟨x, xs, e, h M x h1, k M xs h2⟩
theorem WeakL.rfl : ∀ {as : List AV}, WeakL as as := fun _ _ h => h
theorem Weak.agg {as bs : List AV} (h : WeakL as bs) : Weak (.agg as) (.agg bs) := fun M y hr => by
  unfold Rep at hr ⊢; obtain ⟨l, e, hr⟩ := hr; exact ⟨l, e, h M l hr⟩
theorem Weak.tup {as bs : List AV} (h : WeakL as bs) : Weak (.tup as) (.tup bs) := fun M y hr => by
  unfold Rep at hr ⊢; obtain ⟨l, e, hr⟩ := hr; exact ⟨l, e, h M l hr⟩
theorem Weak.nilSl {sz : Nat} {ex : Bool} : Weak (.v (.slice none 0 0)) (.rsl sz [] ex) := fun M y hr => by
  unfold Rep at hr ⊢; subst hr
  exact ⟨none, 0, [], Eq.refl _, Nat.le_refl _, by simp, fun y hy => by simp at hy, .inr (Eq.refl _), fun _ => Eq.refl _⟩
theorem Weak.rsl {sz sz' : Nat} {es es' : List AV} {ex ex' : Bool} (hex : ex' = true → ex = true) (hsz : es = [] ∨ sz = sz') (h : WeakL es es') : Weak (.rsl sz es ex) (.rsl sz' es' ex') := fun M y hr => by
  unfold Rep at hr ⊢
  obtain ⟨ao, cap, ys, rfl, hc, hes, hsd, hrow, hx⟩ := hr
  have hes' := h _ _ hes
  have hl : es'.length = es.length := by rw [← hes'.length, hes.length]
  refine ⟨ao, cap, ys, by rw [hl], by omega, hes', ?_, hrow, fun q => by rw [hl]; exact hx (hex q)⟩
  rcases hsz with rfl | rfl
  · rw [RepL.nil_iff] at hes; subst hes; exact fun y hy => by simp at hy
  · exact hsd

theorem Computes.weak {C : Cx} {f : FuncId} {l l' : List AV} {r r' : AV} (h : Computes C f l' r') (hl : WeakL l l') (hr : Weak r' r) : Computes C f l r := fun M ys hlt hy hg =>
  (h M ys hlt (hl _ _ hy) hg).mono fun _ _ ⟨v, he, M', hw, hle, hmu, hi, hlt', hrv, hb⟩ => ⟨v, he, M', hw, hle, hmu, hi, hlt', hr _ _ hrv, hb⟩

/-- The evaluator's word over a program and its tables. -/
theorem SpecsOk.comp {C : Cx} {n : Nat} {S : Specs} (hC : C = mkCx P B fuel mode (specT S)) (hn : P.funcs.size = n) (hf : fnsOkB P B.D n = true) (hmix : P.follows .mixedOrders = true) (h : SpecsOk P B.glob S)
    {f : FuncId} {d : Nat} {l : List AV} {r : AV} (hg : evTree C d f l = some r) : Enters P f ∧ Computes (mkCx P (Tabs.bare B.glob) 0 (fun _ => .tree) (fun _ _ => none)) f l r := by
  subst hC
  exact mkCx_sound hn hf hmix h.specOk hg
theorem SpecsOk.compD {C : Cx} {n : Nat} {S : Specs} (hC : C = mkCx P B fuel mode (specT S)) (hn : P.funcs.size = n) (hf : fnsOkB P B.D n = true) (hmix : P.follows .mixedOrders = true) (h : SpecsOk P B.glob S)
    {f : FuncId} {d : Nat} {hs : List Hn} {l : List AV} {r : AV} (hg : (evTreeD C d f l hs).Ok r) : Enters P f ∧ Computes (mkCx P (Tabs.bare B.glob) 0 (fun _ => .tree) (fun _ _ => none)) f l r := by
  subst hC
  exact evD_sound mkCx_ty (mkCx_fn hn hf) h.specOk hmix hg.ok
theorem SpecsOk.roundC {C : Cx} {n : Nat} {S : Specs} (hC : C = mkCx P B fuel mode (specT S)) (hn : P.funcs.size = n) (hf : fnsOkB P B.D n = true) (hmix : P.follows .mixedOrders = true) (h : SpecsOk P B.glob S)
    {d p fid fb bid nt nf : Nat} {rd : Bool} {ts ts1 ts2 : List Tmp} {ks ks1 ks2 : List Nat} {vs vs1 : List AV} {es es1 : List (Bool × Blk)} {hs : List Hn} {ex : Ex}
    (hr : (roundD C d p fid fb nt nf rd (loopOf C fid bid) ts ks ts1 ks1 ts2 ks2 vs es hs).Ok (ex, vs1, es1)) : Says C p nt rd (loopOf C fid bid) (mkSt ts ks nf vs es) ex (endSt ex ts1 ks1 ts2 ks2 nf vs1 es1) := by
  subst hC
  exact roundD_says mkCx_ty (mkCx_fn hn hf) h.specOk hmix (loopOf_ok (mkCx_fn hn hf)) hr.ok
end
end Go.Vm
