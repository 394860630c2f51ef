/- A small evaluator over abstract values: what the operations of a region that draws its order bring, one by one. -/
import Derived.Test.YtliikgffjphhjaaGreatDoorVmDraw1
namespace Go.Vm
open Go.RowKit (Below)

instance : Inhabited DI := ⟨⟨0, .all, [], []⟩⟩

inductive HE where
  | keep
  | set (k : Nat) (e : Ent)
  | all (H : Tr Ent)

def HE.app : HE → Tr Ent → Tr Ent
  | .keep, H => H
  | .set k e, H => H.set k e
  | .all H', _ => H'

structure Eff where
  dst : Option Tmp
  r : AV
  h : HE

def Eff.t (x : Eff) (T : Tr AV) : Tr AV := match x.dst with
  | none => T
  | some d => T.set d x.r

def ET (S : Nat → Bool) (x : Nat → Eff) (T : Tr AV) : Nat → Tr AV
  | 0 => T
  | m + 1 => if S m = true then (x m).t (ET S x T m) else ET S x T m
def EH (S : Nat → Bool) (x : Nat → Eff) (H : Tr Ent) : Nat → Tr Ent
  | 0 => H
  | m + 1 => if S m = true then (x m).h.app (EH S x H m) else EH S x H m

section
variable (clK : CallK) (C : Cx) (fb nt : Nat) (ops : Array Oper) (T0 : Tr AV)

def Does (ver : Nat) (o : Oper) (i : DI) (ks : List Nat) (T : Tr AV) (H : Tr Ent) (x : Eff) : Prop :=
  (i.cls = 0 ∧ x.h = .keep ∧ stays o.op = true ∧ ∃ H', aop C (evA C T) .leaf (fb + o.dst.getD 0) ver o.type o.op = some (x.r, H')) ∨
  (i.cls = 1 ∧ x.h = .keep ∧ ((∃ f args ats, o.op = .call { callee := .value f, args := args, argTypes := ats } ∧ clK (evA C T f) (args.toList.map (evA C T)) (hide H ks) = some x.r) ∨
    ((∃ t n ps, o.op = .buildSlice t n ps) ∧ ∃ H', aop C (evA C T) .leaf (fb + o.dst.getD 0) ver o.type o.op = some (x.r, H')) ∨
    (stays o.op = true ∧ ∃ H', aop C (evA C T) (hide H ks) (fb + o.dst.getD 0) ver o.type o.op = some (x.r, H')))) ∨
  (i.cls = 2 ∧ ∃ k e V, tcKey fb T0 i.own = some k ∧ ownOk (evA C T) (fb + o.dst.getD 0) k o.op = true ∧ aop C (evA C T) (hide H ks) (fb + o.dst.getD 0) ver o.type o.op = some (x.r, V) ∧ V.get k = some e ∧ x.h = .set k e) ∨
  (i.cls = 3 ∧ ∃ H', aop C (evA C T) H (fb + o.dst.getD 0) ver o.type o.op = some (x.r, H') ∧ x.h = .all H')

structure Stp (ver : Nat) (o : Oper) (i : DI) (T : Tr AV) (H : Tr Ent) (x : Eff) : Prop where
  dst : x.dst = o.dst
  lt : ∀ d, o.dst = some d → d < nt
  does : ∃ ks, tcKeys fb T0 i.un = some ks ∧ ownFree fb T0 i ks = true ∧
    ((wantA ops T o = some false ∧ x.r = .v (.tuple #[]) ∧ x.h = .keep) ∨ (wantA ops T o = some true ∧ Does clK C fb T0 ver o i ks T H x))
end

theorem putA_eff {nt : Nat} {T T' : Tr AV} {dst : Option Tmp} {r : AV} (h : putA nt T dst r = some T') : (∀ d, dst = some d → d < nt) ∧ ∀ he, T' = Eff.t { dst := dst, r := r, h := he } T := by
  cases dst with
  | none => simp only [putA, Option.some.injEq] at h; exact ⟨fun d hd => (by cases hd), fun _ => h.symm⟩
  | some d =>
    simp only [putA] at h
    cases hd : Nat.blt d nt with
    | false => simp [hd] at h
    | true =>
      simp only [hd, cond_true, Option.some.injEq] at h
      exact ⟨fun d' hd' => by cases hd'; exact Nat.le_of_ble_eq_true hd, fun _ => h.symm⟩

section
variable {clK : CallK} {C : Cx} {fb nt : Nat} {ops : Array Oper} {T0 : Tr AV}

theorem evDW_does {ver : Nat} {o : Oper} {i : DI} {ks : List Nat} {T T1 : Tr AV} {H H1 : Tr Ent} (h : evDW clK C fb nt T0 ver o i ks T H = some (T1, H1)) :
    ∃ r he, putA nt T o.dst r = some T1 ∧ H1 = HE.app he H ∧ Does clK C fb T0 ver o i ks T H { dst := o.dst, r := r, h := he } := by
  unfold evDW at h
  split at h
  · rename_i hc
    cases hs : stays o.op with
    | false => simp [hs] at h
    | true =>
      simp only [hs, cond_true] at h
      split at h
      · cases h
      · rename_i r H' ha
        simp only [Option.map_eq_some_iff, Prod.mk.injEq] at h
        obtain ⟨T', hp, rfl, rfl⟩ := h
        exact ⟨r, .keep, hp, rfl, .inl ⟨hc, rfl, hs, H', ha⟩⟩
  · rename_i hc
    split at h
    · rename_i f args ats ho
      split at h
      · cases h
      · rename_i r ha
        simp only [Option.map_eq_some_iff, Prod.mk.injEq] at h
        obtain ⟨T', hp, rfl, rfl⟩ := h
        exact ⟨r, .keep, hp, rfl, .inr (.inl ⟨hc, rfl, .inl ⟨f, args, ats, ho, ha⟩⟩)⟩
    · rename_i t n ps ho
      split at h
      · cases h
      · rename_i r H' ha
        simp only [Option.map_eq_some_iff, Prod.mk.injEq] at h
        obtain ⟨T', hp, rfl, rfl⟩ := h
        exact ⟨r, .keep, hp, rfl, .inr (.inl ⟨hc, rfl, .inr (.inl ⟨⟨t, n, ps, ho⟩, H', ha⟩)⟩)⟩
    · cases hs : stays o.op with
      | false => simp [hs] at h
      | true =>
        simp only [hs, cond_true] at h
        split at h
        · cases h
        · rename_i r H' ha
          simp only [Option.map_eq_some_iff, Prod.mk.injEq] at h
          obtain ⟨T', hp, rfl, rfl⟩ := h
          exact ⟨r, .keep, hp, rfl, .inr (.inl ⟨hc, rfl, .inr (.inr ⟨hs, H', ha⟩)⟩)⟩
  · rename_i hc
    split at h
    · cases h
    · rename_i k hk
      cases hw : ownOk (evA C T) (fb + o.dst.getD 0) k o.op with
      | false => simp [hw] at h
      | true =>
        simp only [hw, cond_true] at h
        split at h
        · cases h
        · rename_i r V ha
          split at h
          · cases h
          · rename_i e he
            simp only [Option.map_eq_some_iff, Prod.mk.injEq] at h
            obtain ⟨T', hp, rfl, rfl⟩ := h
            exact ⟨r, .set k e, hp, rfl, .inr (.inr (.inl ⟨hc, k, e, V, hk, hw, ha, he, rfl⟩))⟩
  · rename_i hc
    split at h
    · cases h
    · rename_i r H' ha
      simp only [Option.map_eq_some_iff, Prod.mk.injEq] at h
      obtain ⟨T', hp, rfl, rfl⟩ := h
      exact ⟨r, .all H', hp, rfl, .inr (.inr (.inr ⟨hc, H', ha, rfl⟩))⟩
  · cases h

theorem evDO_stp {ver : Nat} {o : Oper} {i : DI} {T T1 : Tr AV} {H H1 : Tr Ent} (h : evDO clK C fb nt ops T0 ver o i T H = some (T1, H1)) :
    ∃ x, Stp clK C fb nt ops T0 ver o i T H x ∧ T1 = x.t T ∧ H1 = x.h.app H := by
  unfold evDO at h
  split at h
  · cases h
  · rename_i ks hks
    cases hf : ownFree fb T0 i ks with
    | false => simp [hf] at h
    | true =>
      simp only [hf, cond_true] at h
      split at h
      · cases h
      · rename_i hw
        simp only [Option.map_eq_some_iff, Prod.mk.injEq] at h
        obtain ⟨T', hp, rfl, rfl⟩ := h
        obtain ⟨h1, h2⟩ := putA_eff hp
        exact ⟨{ dst := o.dst, r := .v (.tuple #[]), h := .keep }, ⟨rfl, h1, ks, hks, hf, .inl ⟨hw, rfl, rfl⟩⟩, h2 _, rfl⟩
      · rename_i hw
        obtain ⟨r, he, hp, hH, hd⟩ := evDW_does h
        obtain ⟨h1, h2⟩ := putA_eff hp
        exact ⟨{ dst := o.dst, r := r, h := he }, ⟨rfl, h1, ks, hks, hf, .inr ⟨hw, hd⟩⟩, h2 _, hH⟩

theorem ET_cons (x0 : Eff) (x : Nat → Eff) (T : Tr AV) (m : Nat) : ET (fun _ => true) (fun k => match k with | 0 => x0 | k + 1 => x k) T (m + 1) = ET (fun _ => true) x (x0.t T) m := by
  induction m with
  | zero => rfl
  | succ m ih => rw [ET, ih]; rfl
theorem EH_cons (x0 : Eff) (x : Nat → Eff) (H : Tr Ent) (m : Nat) : EH (fun _ => true) (fun k => match k with | 0 => x0 | k + 1 => x k) H (m + 1) = EH (fun _ => true) x (x0.h.app H) m := by
  induction m with
  | zero => rfl
  | succ m ih => rw [EH, ih]; rfl

theorem evDs_stp : ∀ (os : List Oper) (is : List DI) (v : Nat) (T T' : Tr AV) (H H' : Tr Ent), evDs clK C fb nt ops T0 v os is T H = some (T', H') →
    is.length = os.length ∧ ∃ x : Nat → Eff, (∀ m o, os[m]? = some o → Stp clK C fb nt ops T0 (v + m) o (is.getD m default) (ET (fun _ => true) x T m) (EH (fun _ => true) x H m) (x m)) ∧
      ET (fun _ => true) x T os.length = T' ∧ EH (fun _ => true) x H os.length = H'
  | [], [], v, T, T', H, H', h => by
    simp only [evDs, Option.some.injEq, Prod.mk.injEq] at h
    obtain ⟨rfl, rfl⟩ := h
    exact ⟨rfl, fun _ => ⟨none, .bad, .keep⟩, fun m o hm => by simp at hm, rfl, rfl⟩
  | [], _ :: _, _, _, _, _, _, h => by simp [evDs] at h
  | _ :: _, [], _, _, _, _, _, h => by simp [evDs] at h
  | o :: os, i :: is, v, T, T', H, H', h => by
    simp only [evDs] at h
    split at h
    · cases h
    · rename_i T1 H1 h1
      obtain ⟨x0, hs0, rfl, rfl⟩ := evDO_stp h1
      obtain ⟨hlen, x, hx, hT, hH⟩ := evDs_stp os is (v + 1) _ _ _ _ h
      refine ⟨by simp [hlen], fun k => match k with | 0 => x0 | k + 1 => x k, fun m o' hm => ?_, ?_, ?_⟩
      · cases m with
        | zero => simp only [List.getElem?_cons_zero, Option.some.injEq] at hm; subst hm; exact hs0
        | succ m =>
          simp only [List.getElem?_cons_succ] at hm
          have := hx m o' hm
          rw [ET_cons, EH_cons]
          rw [show v + 1 + m = v + (m + 1) from by omega] at this
          exact this
      · rw [List.length_cons, ET_cons]; exact hT
      · rw [List.length_cons, EH_cons]; exact hH
end

/-! ### What is checked of a region once for all -/
def Tc.beq : Tc → Tc → Bool
  | .slot a, .slot b => Nat.beq a b
  | .at_ a, .at_ b => Nat.beq a b
  | .all, .all => true
  | _, _ => false
def tcIn (c : Tc) : List Tc → Bool
  | [] => false
  | d :: ds => bif Tc.beq c d then true else tcIn c ds

def heapOk (x y : DI) : Bool := Nat.beq x.cls 0 || Nat.ble y.cls 1 || (Nat.beq y.cls 2 && tcIn y.own x.un)

def opDrawOk (ops : Array Oper) (is : List DI) (i : Nat) (o : Oper) (d : DI) : Bool :=
  o.after.all (fun e => !Region.binds .any e || Nat.blt e.on i) &&
  d.anc.all (fun j => Nat.blt j i && o.after.any fun e => Region.binds .any e && (Nat.beq e.on j || memN j (is.getD e.on default).anc)) &&
  (List.range i).all fun j => memN j d.anc || (match ops[j]? with | some o' => o.apart ops o' | none => false) && heapOk d (is.getD j default) && heapOk (is.getD j default) d

def drawOk (ops : Array Oper) (is : List DI) : Bool :=
  (List.range ops.size).all fun i => match ops[i]? with | some o => opDrawOk ops is i o (is.getD i default) | none => false

theorem Tc.beq_eq {a b : Tc} (h : Tc.beq a b = true) : a = b := by
  cases a <;> cases b <;> simp only [Tc.beq] at h <;> first | rfl | (rw [Nat.eq_of_beq_eq_true h]) | cases h

theorem tcIn_key {fb : Nat} {T0 : Tr AV} {c : Tc} {k : Nat} (hk : tcKey fb T0 c = some k) : ∀ (l : List Tc) (ks : List Nat), tcIn c l = true → tcKeys fb T0 l = some ks → memN k ks = true
  | [], _, h, _ => by simp [tcIn] at h
  | d :: ds, ks, h, hks => by
    simp only [tcKeys] at hks
    split at hks
    · rename_i k' ks' h1 h2
      simp only [Option.some.injEq] at hks; subst hks
      simp only [tcIn] at h
      cases hb : Tc.beq c d with
      | true =>
        have := Tc.beq_eq hb; subst this
        rw [hk] at h1; simp only [Option.some.injEq] at h1; subst h1
        simp [memN, Nat.beq_refl]
      | false =>
        simp only [hb, cond_false] at h
        have := tcIn_key hk ds ks' h h2
        simp only [memN, this]; cases Nat.beq k k' <;> rfl
    · cases hks

theorem memN_iff {k : Nat} : ∀ {l : List Nat}, memN k l = true ↔ k ∈ l
  | [] => by simp [memN]
  | j :: js => by
    simp only [memN, List.mem_cons]
    cases hb : Nat.beq k j with
    | true => simp [Nat.eq_of_beq_eq_true hb]
    | false => simp only [cond_false, memN_iff (l := js)]; have := Nat.ne_of_beq_eq_false hb; simp [this]

theorem hide_get {H : Tr Ent} : ∀ {ks : List Nat} {k : Nat} {e : Ent}, (hide H ks).get k = some e → H.get k = some e ∧ memN k ks = false
  | [], _, _, h => ⟨h, rfl⟩
  | j :: js, k, e, h => by
    simp only [hide] at h
    obtain ⟨h1, h2⟩ := Tr.get_del h
    obtain ⟨h3, h4⟩ := hide_get h2
    refine ⟨h3, ?_⟩
    simp only [memN, h4]
    cases hb : Nat.beq k j with
    | true => exact absurd (Nat.eq_of_beq_eq_true hb) h1
    | false => rfl
end Go.Vm
