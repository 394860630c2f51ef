/- A small evaluator over abstract values: the evaluator with its branches ahead of what follows them: for values that are not known. -/
import Derived.Test.YtliikgffjphhjaaGreatDoorVmDraw5
namespace Go.Vm

inductive Dt (R : Type) where
  | done (x : Option R)
  | need (p : Prop) (t : Dt R)

def Dt.ok {R : Type} : Dt R → R → Prop
  | .done x, r => x = some r
  | .need p t, r => p ∧ t.ok r

/-- The same, behind a name. -/
structure Dt.Ok {R : Type} (t : Dt R) (r : R) : Prop where
  ok : t.ok r

/-- Hints: what an operation, a loop, a call comes to, where this is shown apart. -/
inductive Hn where
  | skip
  | chk (els : List AV)
  | ld (a : AV)
  | eq (a : AV)
  | loop (p : Nat) (ts : List Tmp) (ks : List Nat) (ts2 : List Tmp) (ks2 : List Nat) (ex : Ex) (vs : List AV) (es : List (Bool × Blk))
  | call (r : AV) (st : St → St)
  | sp (as : List AV) (r : AV)
  | st (e : AV)
  | mu (ks vs : List AV)
  | dv (a : AV)
  | br (a b : List Hn)

def hard : Op → Bool
  | .indexAddr .. | .slice .. | .lookup .. => true
  | .call { callee := .builtin .append, .. } => true
  | _ => false

/-- What becomes of a map's keys and elements. -/
def mapUpd (C : Cx) (t : TypeId) (ks vs : List AV) (i v : AV) : Option (List AV × List AV) :=
  match C.ty t, toV i with
  | some { desc := .map kt _, .. }, some key =>
    match keyAt C kt ks false key with
    | some (some j) => (match (ks[j]?).bind toV with
      | some old => match pureRun C.P (Instr.keyThatStays old key) with
        | some _ => some (ks.set j i, vs.set j v)
        | none => none
      | none => none)
    | some none => some (ks ++ [i], vs ++ [v])
    | none => none
  | _, _ => none

theorem mapUpd_ok {C : Cx} {H : Tr Ent} {t : TypeId} {k r : Nat} {ks vs ks' vs' : List AV} {i v : AV} {ver : Nat} (hl : live H k r = some { ver := ver, fz := false, blk := .map ks vs }) (h : mapUpd C t ks vs i v = some (ks', vs')) :
    amapUpdate C H t (.mp k r) i v = some (H.set k { ver := r, fz := false, blk := .map ks' vs' }) := by
  unfold mapUpd at h
  unfold amapUpdate
  split at h
  · rename_i kt _ _ _ _ _ key hty hkey
    rw [hty, hkey]
    simp only [hl]
    split at h
    · rename_i j hj
      rw [hj]
      simp only
      split at h
      · rename_i old ho
        rw [ho]
        simp only
        split at h
        · rename_i x hx
          simp only [Option.some.injEq, Prod.mk.injEq] at h
          obtain ⟨rfl, rfl⟩ := h
          rw [hx]
        · cases h
      · cases h
    · rename_i hj
      rw [hj]
      simp only [Option.some.injEq, Prod.mk.injEq] at h
      obtain ⟨rfl, rfl⟩ := h
      rfl
    · cases h
  · cases h

/-- An operation whose checks are left to be shown: of the elements that a hint names. -/
def aopN (C : Cx) (ev : Operand → AV) (H : Tr Ent) (key ver : Nat) (type : TypeId) (els : List AV) : Op → Option (Prop × AV × Tr Ent)
  | .indexAddr t x i => match asN (ev i) with
    | none => none
    | some n => match ev x with
      | .rsl sz es _ => (match elemTI C t, els with
        | some te, [a] => bif Nat.beq te.size sz then (cells? a).map fun cs => (es[n]? = some a, .rptr cs, H) else none
        | _, _ => none)
      | .sl k r sz lo len => (match elemTI C t, live H k r with
        | some te, some { blk := .arr .., .. } => bif Nat.beq te.size sz then some (n < len, .eptr k r sz (lo + n) 0, H) else none
        | _, _ => none)
      | _ => none
  | .load t a => match ev a, els with
    | .eptr k r sz i off, [x] => (match live H k r with
      | some { blk := .arr sz' es _, .. } => bif Nat.beq sz sz' then (match cells? x with
        | some cs => (partA C t (cs.drop off) 0).map fun v => (es[i]? = some x, v, H)
        | none => none) else none
      | _ => none)
    | _, _ => none
  | .index t x i => match els with
    | [a] => some (aindex C t (ev x) (ev i) = some a, a, H)
    | _ => none
  | .slice t x lo hi none => match ev x with
    | .v (.string s) => (match els with
      | [a] => some (aslice C .leaf t (.v (.string s)) (lo.map ev) (hi.map ev) none = some a, a, H)
      | _ => none)
    | .rsl sz es ex => (match elemTI C t, (match lo with | none => some 0 | some a => asN (ev a)), (match hi with | none => some es.length | some a => asN (ev a)) with
      | some te, some l, some h => bif Nat.beq te.size sz then some (l ≤ h ∧ h ≤ es.length, .rsl sz ((es.drop l).take (h - l)) (ex && Nat.beq h es.length), H) else none
      | _, _, _ => none)
    | _ => none
  | .store t a x => match ev a, els with
    | .eptr k r sz i off, [e] => (match C.ty t, cells? (ev x), live H k r, cells? e with
      | some ti, some vs, some { fz := false, blk := .arr sz' es ex, .. }, some cs =>
        bif Nat.beq vs.length ti.size && Nat.beq sz sz' && Nat.ble (off + vs.length) cs.length then
          (mkEl e (splice cs off vs)).map fun e' => (es[i]? = some e, .v (.tuple #[]), H.set k { ver := r, fz := false, blk := .arr sz' (es.set i e') ex })
        else none
      | _, _, _, _ => none)
    | _, _ => none
  | .mapUpdate t m i v => match ev m, els with
    | .mp k r, [.tup ks', .tup vs'] => (match live H k r with
      | some { fz := false, blk := .map ks vs, .. } => some (mapUpd C t ks vs (ev i) (ev v) = some (ks', vs'), .v (.tuple #[]), H.set k { ver := r, fz := false, blk := .map ks' vs' })
      | _ => none)
    | _, _ => none
  | .binOp o t x y _ => match els with
    | [a] => some (abin C o t x y (ev x) (ev y) = some a, a, H)
    | _ => none
  | .lookup t x i ok => match ev x, els with
    | .rmp ks vs, [a] => some (alookup C .leaf t (.rmp ks vs) (ev i) ok = some a, a, H)
    | .mp k r, [a] => (match live H k r with
      | some { blk := .map ks vs, .. } => some (alookup C .leaf t (.rmp ks vs) (ev i) ok = some a, a, H)
      | _ => none)
    | _, _ => none
  | .call { callee := .builtin .append, args, argTypes } => match args.toList.map ev, argTypes.toList with
    | [s, x], [st, xt] => (match elemTI C st, TI.dsc (C.ty xt), elemsOf H x with
      | some { size := sz, bytes := by_, zero := some z, .. }, some xd, some (x1 :: xs) =>
        bif notSeq xd then none else
        (match s with
        | .v (.slice none 0 0) => some (allSz sz (x1 :: xs) = true ∧ z.cells.size = sz ∧ (x1 :: xs).length * by_ ≤ 35184372088832 ∧ (x1 :: xs).length ≤ 35184372088832 ∧ by_ ≠ 0,
            .sl key ver sz 0 (x1 :: xs).length, H.set key { ver := ver, fz := false, blk := .arr sz (x1 :: xs) false })
        | .rsl sz' es true => bif Nat.beq sz sz' then some (allSz sz (x1 :: xs) = true ∧ z.cells.size = sz ∧ (es ++ (x1 :: xs)).length * by_ ≤ 35184372088832 ∧ (es ++ (x1 :: xs)).length ≤ 35184372088832 ∧ by_ ≠ 0,
            .sl key ver sz 0 (es ++ (x1 :: xs)).length, H.set key { ver := ver, fz := false, blk := .arr sz (es ++ (x1 :: xs)) false }) else none
        | .sl k r sz' 0 len => (match live H k r with
          | some { fz := false, blk := .arr sz'' es false, .. } => bif Nat.beq sz sz' && Nat.beq sz sz'' then
            some (len = es.length ∧ allSz sz (x1 :: xs) = true ∧ z.cells.size = sz ∧ (es ++ (x1 :: xs)).length * by_ ≤ 35184372088832 ∧ (es ++ (x1 :: xs)).length ≤ 35184372088832 ∧ by_ ≠ 0,
              .sl key ver sz 0 (es ++ (x1 :: xs)).length, (H.del k).set key { ver := ver, fz := false, blk := .arr sz (es ++ (x1 :: xs)) false }) else none
          | _ => none)
        | _ => none)
      | _, _, _ => none)
    | _, _ => none
  | _ => none

section
variable {R : Type}

/-- A condition that is known from here on. -/
def setB (T : Tr AV) (d : Tmp) (b : Bool) : Tr AV := T.set d (.v (.bool b))
def setC (T : Tr AV) (c : Operand) (b : Bool) : Tr AV := match c with
  | .tmp t => setB T t b
  | _ => T

def wantD (ops : Array Oper) (T : Tr AV) (o : Oper) (kt kf : Tr AV → Dt R) : Dt R :=
  match o.guard with
  | none => kt T
  | some (j, want) => match (ops[j]?).bind (·.dst) with
    | none => kf T
    | some d => match T.get d with
      | some (.v (.bool b)) => bif want then (bif b then kt (setB T d true) else kf (setB T d false)) else (bif b then kf (setB T d true) else kt (setB T d false))
      | some (.v _) => kf T
      | _ => .done none

def opD (C : Cx) (ev : Operand → AV) (H : Tr Ent) (key ver : Nat) (type : TypeId) (op : Op) (hs : List Hn) (k : AV → Tr Ent → List Hn → Dt R) : Dt R :=
  match op with
  | .pick c a b => match ev c with
    | .v (.bool t) => match ev a, ev b with
      | .v (.bool x), .v (.bool y) => k (.v (.bool (bif t then x else y))) H hs
      | x, y => bif t then k x H hs else k y H hs
    | _ => .done none
  | .next it true => match ev it with
    | .itr kk r => match live H kk r with
      | some { fz := false, blk := .siter s pos, .. } =>
        bif Nat.blt pos s.size then k (.tup [gB true, gI pos, .v (.int .i32 (Utf8.decode s pos).1)]) (H.set kk { ver := r, fz := false, blk := .siter s (pos + (Utf8.decode s pos).2) }) hs
        else k (.tup [gB false]) H hs
      | _ => .done none
    | _ => .done none
  | op =>
    match hs with
    | [] => match aop C ev H key ver type op with
      | none => .done none
      | some (r, H') => k r H' []
    | x :: hs' =>
      bif hard op || (match op, x with | .load .., .ld _ => true | .binOp _ _ p _ _, .eq _ => (match ev p with | .agg _ => true | _ => false) | .store _ a _, .st _ => (match ev a with | .eptr .. => true | _ => false) | .mapUpdate .., .mu .. => true | .index .., .ld _ => true | .binOp .quo _ _ _ _, .dv _ => true | .binOp .rem _ _ _ _, .dv _ => true | _, _ => false) then
        match x with
        | .chk els => (match aopN C ev H key ver type els op with
          | some (p, a, H') => .need p (k a H' hs')
          | none => .done none)
        | .ld a => (match aopN C ev H key ver type [a] op with
          | some (p, a, H') => .need p (k a H' hs')
          | none => .done none)
        | .eq a => (match aopN C ev H key ver type [a] op with
          | some (p, a, H') => .need p (k a H' hs')
          | none => .done none)
        | .st a => (match aopN C ev H key ver type [a] op with
          | some (p, a, H') => .need p (k a H' hs')
          | none => .done none)
        | .dv a => (match aopN C ev H key ver type [a] op with
          | some (p, a, H') => .need p (k a H' hs')
          | none => .done none)
        | .mu ks vs => (match aopN C ev H key ver type [.tup ks, .tup vs] op with
          | some (p, a, H') => .need p (k a H' hs')
          | none => .done none)
        | .skip => match aop C ev H key ver type op with
          | none => .done none
          | some (r, H') => k r H' hs'
        | _ => .done none
      else match aop C ev H key ver type op with
        | none => .done none
        | some (r, H') => k r H' (x :: hs')

abbrev CallD (R : Type) := AV → List AV → St → List Hn → (AV → St → List Hn → Dt R) → Dt R

def evOD (cl : CallF) (clD : CallD R) (C : Cx) (fb nt : Nat) (ops : Array Oper) (o : Oper) (st : St) (hs : List Hn) (k : St → List Hn → Dt R) : Dt R :=
  wantD ops st.T o
    (fun T0 => match o.op with
      | .call { callee := .value f, args, .. } =>
        match hs with
        | .call r g :: hs' => .need (cl (evA C T0 f) (args.toList.map (evA C T0)) { st with T := T0 } = some (r, g { st with T := T0 })) (match putA nt T0 o.dst r with
            | none => .done none
            | some T => k { (g { st with T := T0 }) with T := T } hs')
        | hs => clD (evA C T0 f) (args.toList.map (evA C T0)) { st with T := T0 } hs fun r s1 h1 => match putA nt T0 o.dst r with
            | none => .done none
            | some T => k { s1 with T := T } h1
      | op => opD C (evA C T0) st.H (fb + o.dst.getD 0) st.nv o.type op hs fun r H hs' => match putA nt T0 o.dst r with
        | none => .done none
        | some T => k { st with T := T, H := H, nv := st.nv + 1 } hs')
    (fun T0 => match putA nt T0 o.dst (.v (.tuple #[])) with
      | none => .done none
      | some T => k { st with T := T } hs)

def evOpsD (cl : CallF) (clD : CallD R) (C : Cx) (fb nt : Nat) (ops : Array Oper) : List Oper → St → List Hn → (St → List Hn → Dt R) → Dt R
  | [], st, hs, k => k st hs
  | o :: os, st, hs, k => evOD cl clD C fb nt ops o st hs fun s1 h1 => evOpsD cl clD C fb nt ops os s1 h1 k

def hintEls : Op → (Operand → AV) → Hn → Option (List AV)
  | .binOp .quo _ _ _ _, _, .dv a => some [a]
  | .binOp .rem _ _ _ _, _, .dv a => some [a]
  | .binOp _ _ p _ _, ev, .eq a => (match ev p with | .agg _ => some [a] | _ => none)
  | .load .., _, .ld a => some [a]
  | .index .., _, .ld a => some [a]
  | .indexAddr .., _, .chk els => some els
  | .slice .., _, .chk els => some els
  | .lookup .., _, .chk els => some els
  | _, _, _ => none

/-- An operation of a region that draws, with what is left to be shown of it. -/
def evDWD (clK : CallK) (C : Cx) (fb nt : Nat) (T0 : Tr AV) (ver : Nat) (o : Oper) (i : DI) (ks : List Nat) (T : Tr AV) (H : Tr Ent) (hs : List Hn) (k : Tr AV → Tr Ent → List Hn → Dt R) : Dt R :=
  match hs with
  | [] => (match evDW clK C fb nt T0 ver o i ks T H with
    | none => .done none
    | some (T1, H1) => k T1 H1 [])
  | x :: hs' =>
    match i.cls, o.op, x with
    | 1, .call { callee := .value f, args, .. }, .sp as r => (match evA C T f with
      | .fn (.func g) first cap =>
        (match C.mode g with
        | .spec => bif (first ++ args.toList.map (evA C T) ++ cap).all closed then
            .need (first ++ args.toList.map (evA C T) ++ cap = as ∧ C.spec g (first ++ args.toList.map (evA C T) ++ cap) = some r) (match putA nt T o.dst r with
              | none => .done none
              | some T1 => k T1 H hs')
          else .done none
        | _ => .done none)
      | _ => .done none)
    | c, op, x => (match hintEls op (evA C T) x with
      | some els => bif (match c with | 0 => true | 1 => true | _ => false) && stays op then
          (match aopN C (evA C T) (match c with | 0 => .leaf | _ => hide H ks) (fb + o.dst.getD 0) ver o.type els op with
          | some (p, r, _) => .need p (match putA nt T o.dst r with
            | none => .done none
            | some T1 => k T1 H hs')
          | none => .done none)
        else .done none
      | none => (match op, x with
        | .indexAddr .., .skip => (match evDW clK C fb nt T0 ver o i ks T H with | none => .done none | some (T1, H1) => k T1 H1 hs')
        | .slice .., .skip => (match evDW clK C fb nt T0 ver o i ks T H with | none => .done none | some (T1, H1) => k T1 H1 hs')
        | .lookup .., .skip => (match evDW clK C fb nt T0 ver o i ks T H with | none => .done none | some (T1, H1) => k T1 H1 hs')
        | _, _ => (match evDW clK C fb nt T0 ver o i ks T H with
          | none => .done none
          | some (T1, H1) => k T1 H1 (x :: hs'))))

def evDOD (clK : CallK) (C : Cx) (fb nt : Nat) (ops : Array Oper) (T0 : Tr AV) (ver : Nat) (o : Oper) (i : DI) (T : Tr AV) (H : Tr Ent) (hs : List Hn) (k : Tr AV → Tr Ent → List Hn → Dt R) : Dt R :=
  match tcKeys fb T0 i.un with
  | none => .done none
  | some ks =>
    bif ownFree fb T0 i ks then
      wantD ops T o
        (fun T => match i.cls, o.op with
         | 0, .pick c a b => match evA C T c with
          | .v (.bool t) => match evA C T a, evA C T b with
            | .v (.bool x), .v (.bool y) => (match putA nt T o.dst (.v (.bool (bif t then x else y))) with | none => .done none | some T1 => k T1 H hs)
            | x, y => bif t then (match putA nt T o.dst x with | none => .done none | some T1 => k T1 H hs) else (match putA nt T o.dst y with | none => .done none | some T1 => k T1 H hs)
          | _ => .done none
         | _, _ => evDWD clK C fb nt T0 ver o i ks T H hs k)
        (fun T => match putA nt T o.dst (.v (.tuple #[])) with
          | none => .done none
          | some T1 => k T1 H hs)
    else .done none

def evDsD (clK : CallK) (C : Cx) (fb nt : Nat) (ops : Array Oper) (T0 : Tr AV) : Nat → List Oper → List DI → Tr AV → Tr Ent → List Hn → (Tr AV → Tr Ent → List Hn → Dt R) → Dt R
  | _, [], [], T, H, hs, k => k T H hs
  | v, o :: os, i :: is, T, H, hs, k => evDOD clK C fb nt ops T0 v o i T H hs fun T1 H1 h1 => evDsD clK C fb nt ops T0 (v + 1) os is T1 H1 h1 k
  | _, _, _, _, _, _, _ => .done none

def iterD (f : St → List Hn → (Ex → St → List Hn → Dt R) → Dt R) : Nat → St → List Hn → (Ex → St → List Hn → Dt R) → Dt R
  | 0, _, _, _ => .done none
  | n + 1, st, hs, k => f st hs fun ex s1 h1 => match ex with
    | .nrm => iterD f n s1 h1 k
    | e => k e s1 h1

theorem Dt.fail {R : Type} {r : R} (h : (Dt.done none : Dt R).ok r) : False := by cases h

theorem Tr.put_same {α : Type} {v : Option α} : ∀ (f : Nat) (t : Tr α) (i : Nat) {x : α}, v = some x → t.get i = some x → i + 1 < 2 ^ f → Tr.put v f t i = t
  | 0, t, i, x, _, _, hf => by simp at hf
  | f + 1, .leaf, i, x, _, h, _ => by rw [Tr.get_leaf] at h; cases h
  | f + 1, .node o l r, 0, x, hv, h, _ => by
    unfold Tr.get at h
    unfold Tr.put
    rw [hv, h]
  | f + 1, .node o l r, n + 1, x, hv, h, hf => by
    unfold Tr.get at h
    unfold Tr.put
    have hlt : n / 2 + 1 < 2 ^ f := by rw [Nat.pow_succ] at hf; omega
    cases hb : Nat.beq (n % 2) 0 with
    | true => rw [hb, cond_true] at h; rw [cond_true, Tr.put_same f l (n / 2) hv h hlt]
    | false => rw [hb, cond_false] at h; rw [cond_false, Tr.put_same f r (n / 2) hv h hlt]

theorem setB_same {T : Tr AV} {d : Tmp} {b : Bool} (h : T.get d = some (.v (.bool b))) : setB T d b = T := Tr.put_same (d + 1) T d rfl h (enough d)
theorem setC_same {C : Cx} {T : Tr AV} {c : Operand} {b : Bool} (h : evA C T c = .v (.bool b)) : setC T c b = T := by
  cases c with
  | tmp t =>
    simp only [setC]
    refine setB_same ?_
    simp only [evA] at h
    split at h
    · rename_i a ha; rw [ha, h]
    · cases h
  | _ => rfl

theorem wantD_ok {ops : Array Oper} {T : Tr AV} {o : Oper} {kt kf : Tr AV → Dt R} {r : R} (h : (wantD ops T o kt kf).ok r) : (wantA ops T o = some true ∧ (kt T).ok r) ∨ (wantA ops T o = some false ∧ (kf T).ok r) := by
  unfold wantD at h
  unfold wantA
  cases hg : o.guard with
  | none => rw [hg] at h; exact .inl ⟨rfl, h⟩
  | some gw =>
    obtain ⟨j, want⟩ := gw
    rw [hg] at h
    simp only at h ⊢
    cases hd : (ops[j]?).bind (·.dst) with
    | none => rw [hd] at h; exact .inr ⟨rfl, h⟩
    | some d =>
      rw [hd] at h
      simp only at h ⊢
      cases hT : T.get d with
      | none => rw [hT] at h; exact (Dt.fail h).elim
      | some a =>
        rw [hT] at h
        cases a with
        | v x =>
          cases x with
          | bool b =>
            simp only at h ⊢
            have hs := setB_same hT
            cases want <;> cases b <;> simp only [cond_true, cond_false] at h <;> rw [hs] at h <;> first | exact .inl ⟨rfl, h⟩ | exact .inr ⟨rfl, h⟩
          | _ => exact .inr ⟨rfl, h⟩
        | _ => exact (Dt.fail h).elim

theorem aop_pick {C : Cx} {ev : Operand → AV} {H : Tr Ent} {key ver : Nat} {type : TypeId} {c a b : Operand} {t : Bool} (h : ev c = .v (.bool t)) : aop C ev H key ver type (.pick c a b) = some (bif t then ev a else ev b, H) := by
  simp [aop, asB, h]

theorem beq_of {a b : Nat} (h : a = b) : Nat.beq a b = true := by subst h; exact Nat.beq_refl a

theorem aopN_ok {C : Cx} {ev : Operand → AV} {H H' : Tr Ent} {key ver : Nat} {type : TypeId} {els : List AV} {op : Op} {p : Prop} {a : AV} (h : aopN C ev H key ver type els op = some (p, a, H')) (hp : p) : aop C ev H key ver type op = some (a, H') := by
  unfold aopN at h
  split at h
  · -- indexAddr
    rename_i t x i
    simp only [aop, aindexAddr]
    split at h
    · cases h
    · rename_i n hn
      rw [hn]
      simp only
      split at h
      · rename_i sz es ex hx
        split at h
        · rename_i te a' hte
          cases hb : Nat.beq te.size sz with
          | false => simp [hb] at h
          | true =>
            simp only [hb, cond_true, Option.map_eq_some_iff, Prod.mk.injEq] at h
            obtain ⟨cs, hcs, rfl, rfl, rfl⟩ := h
            simp [hx, hte, hb, hp, hcs]
        · cases h
      · rename_i k r sz lo len hx
        split at h
        · rename_i te ver' fz' bl1 bl2 bl3 hte hl
          cases hb : Nat.beq te.size sz with
          | false => simp [hb] at h
          | true =>
            simp only [hb, cond_true, Option.some.injEq, Prod.mk.injEq] at h
            obtain ⟨rfl, rfl, rfl⟩ := h
            have hlt : Nat.blt n len = true := Nat.ble_eq_true_of_le hp
            simp [hx, hte, hl, hb, hlt]
        · cases h
      · cases h
  · -- load
    rename_i t x
    simp only [aop, aload]
    split at h
    · rename_i k r sz i off x' hx
      split at h
      · rename_i ver' fz' sz' es ex hl
        cases hb : Nat.beq sz sz' with
        | false => simp [hb] at h
        | true =>
          simp only [hb, cond_true] at h
          split at h
          · rename_i cs hcs
            simp only [Option.map_eq_some_iff, Prod.mk.injEq] at h
            obtain ⟨v, hv, rfl, rfl, rfl⟩ := h
            simp [hx, cellsAt, hl, hb, hp, hcs, hv]
          · cases h
      · cases h
    · cases h
  · -- index
    rename_i t x i
    split at h
    · simp only [Option.some.injEq, Prod.mk.injEq] at h
      obtain ⟨rfl, rfl, rfl⟩ := h
      simp only [aop, hp, Option.map_some]
    · cases h
  · -- slice
    rename_i t x lo hi
    simp only [aop, aslice]
    split at h
    · rename_i s hx
      split at h
      · simp only [Option.some.injEq, Prod.mk.injEq] at h
        obtain ⟨rfl, rfl, rfl⟩ := h
        simp only [aslice] at hp
        simp only [hx, Option.map_none, hp, Option.map_some]
      · cases h
    · rename_i sz es ex hx
      split at h
      · rename_i te l hh hte hlo hhi
        cases hb : Nat.beq te.size sz with
        | false => simp [hb] at h
        | true =>
          simp only [hb, cond_true, Option.some.injEq, Prod.mk.injEq] at h
          obtain ⟨rfl, rfl, rfl⟩ := h
          have hle : Nat.ble l hh = true := Nat.ble_eq_true_of_le hp.1
          have hle2 : Nat.ble hh es.length = true := Nat.ble_eq_true_of_le hp.2
          have hab : abounds es.length (lo.map ev) (hi.map ev) (Option.map ev none) = some (l, hh, none) := by
            cases lo <;> cases hi <;> simp only [Option.some.injEq] at hlo hhi <;> (try subst hlo) <;> (try subst hhi) <;> simp [abounds, *]
          simp only [hx, hte, hab, hb, hle2, Bool.and_self, cond_true, Option.map_some]
      · cases h
    · cases h
  · -- store
    rename_i t x y
    simp only [aop, astore]
    split at h
    · rename_i k r sz i off e hx
      split at h
      · rename_i ti vs ver' sz' es ex cs hty hvs hl hcs
        generalize hbb : (Nat.beq vs.length ti.size && Nat.beq sz sz' && Nat.ble (off + vs.length) cs.length) = bb at h
        cases bb with
        | false => cases h
        | true =>
          simp only [Bool.and_eq_true] at hbb
          obtain ⟨⟨b1, b2⟩, b3⟩ := hbb
          simp only [cond_true, Option.map_eq_some_iff, Prod.mk.injEq] at h
          obtain ⟨e', he', rfl, rfl, rfl⟩ := h
          rw [hty, hvs]
          simp only [b1, Bool.not_true, cond_false, hx, hl, b2, hp, hcs, b3, cond_true, he', Option.map_some]
      · cases h
    · cases h
  · -- mapUpdate
    rename_i t m i v
    simp only [aop]
    split at h
    · rename_i k r ks' vs' hm
      split at h
      · rename_i ver' ks vs hl
        simp only [Option.some.injEq, Prod.mk.injEq] at h
        obtain ⟨rfl, rfl, rfl⟩ := h
        rw [hm, mapUpd_ok hl hp]; rfl
      · cases h
    · cases h
  · -- binOp
    rename_i o t x y _
    split at h
    · simp only [Option.some.injEq, Prod.mk.injEq] at h
      obtain ⟨rfl, rfl, rfl⟩ := h
      simp only [aop, hp, Option.map_some]
    · cases h
  · -- lookup
    rename_i t x i ok
    simp only [aop]
    split at h
    · rename_i ks vs a' hx
      simp only [Option.some.injEq, Prod.mk.injEq] at h
      obtain ⟨rfl, rfl, rfl⟩ := h
      have : alookup C H t (ev x) (ev i) ok = some a' := by rw [hx]; exact hp
      rw [this]; rfl
    · rename_i k r a' hx
      split at h
      · rename_i ver' fz' ks vs hl
        simp only [Option.some.injEq, Prod.mk.injEq] at h
        obtain ⟨rfl, rfl, rfl⟩ := h
        have : alookup C H t (ev x) (ev i) ok = some a' := by
          rw [hx]
          have hm : mapOf H (.mp k r) = mapOf .leaf (.rmp ks vs) := by simp [mapOf, hl]
          unfold alookup at hp ⊢
          rw [hm]; exact hp
        rw [this]; rfl
      · cases h
    · cases h
  · -- append
    rename_i args ats
    simp only [aop]
    split at h
    · rename_i s x st xt hargs hats
      rw [hargs, hats]
      simp only [abuiltin, aappend]
      split at h
      · rename_i dsc sz ag by_ z xd x1 xs hte hxd hxs
        rw [hte, hxd, hxs]
        simp only
        cases hq : notSeq xd with
        | true => simp [hq] at h
        | false =>
          simp only [hq, cond_false] at h ⊢
          split at h
          · simp only [Option.some.injEq, Prod.mk.injEq] at h
            obtain ⟨rfl, rfl, rfl⟩ := h
            obtain ⟨p1, p2, p3, p4, p5⟩ := hp
            have c1 := Nat.ble_eq_true_of_le p3
            have c2 := Nat.ble_eq_true_of_le p4
            have c3 : Nat.beq by_ 0 = false := by cases hb : Nat.beq by_ 0 with | false => rfl | true => exact absurd (Nat.eq_of_beq_eq_true hb) p5
            simp only [p1, beq_of p2, Bool.and_self, Bool.not_true, cond_false, c1, c2, c3, Bool.not_false, cond_true]
          · rename_i sz' es
            cases hb : Nat.beq sz sz' with
            | false => simp [hb] at h
            | true =>
              simp only [hb, cond_true, Option.some.injEq, Prod.mk.injEq] at h
              obtain ⟨rfl, rfl, rfl⟩ := h
              obtain ⟨p1, p2, p3, p4, p5⟩ := hp
              have c1 := Nat.ble_eq_true_of_le p3
              have c2 := Nat.ble_eq_true_of_le p4
              have c3 : Nat.beq by_ 0 = false := by cases hb : Nat.beq by_ 0 with | false => rfl | true => exact absurd (Nat.eq_of_beq_eq_true hb) p5
              simp only [p1, beq_of p2, Bool.and_self, Bool.not_true, cond_false, c1, c2, c3, Bool.not_false, cond_true, hb]
          · rename_i k r sz' len
            split at h
            · rename_i ver' sz'' es hl
              generalize hbb : (Nat.beq sz sz' && Nat.beq sz sz'') = bb at h
              cases bb with
              | false => simp at h
              | true =>
                simp only [cond_true, Option.some.injEq, Prod.mk.injEq] at h
                obtain ⟨rfl, rfl, rfl⟩ := h
                obtain ⟨p0, p1, p2, p3, p4, p5⟩ := hp
                have c1 := Nat.ble_eq_true_of_le p3
                have c2 := Nat.ble_eq_true_of_le p4
                have c3 : Nat.beq by_ 0 = false := by cases hb : Nat.beq by_ 0 with | false => rfl | true => exact absurd (Nat.eq_of_beq_eq_true hb) p5
                have c4 : Nat.beq (0 + len) es.length = true := beq_of (by omega)
                simp only [p1, beq_of p2, Bool.and_self, Bool.not_true, cond_false, c1, c2, c3, Bool.not_false, cond_true, hl, hbb, c4, Nat.beq_refl]
            · cases h
          · cases h
      · cases h
    · cases h
  · cases h

theorem opD_ok {C : Cx} {ev : Operand → AV} {H : Tr Ent} {key ver : Nat} {type : TypeId} {op : Op} {hs : List Hn} {k : AV → Tr Ent → List Hn → Dt R} {r : R} (h : (opD C ev H key ver type op hs k).ok r) :
    ∃ a H' hs', aop C ev H key ver type op = some (a, H') ∧ (k a H' hs').ok r := by
  unfold opD at h
  split at h
  · rename_i c a b
    split at h
    · rename_i t ht
      rw [aop_pick ht]
      split at h
      · rename_i x y hx hy
        refine ⟨bif t then ev a else ev b, H, hs, rfl, ?_⟩
        rw [hx, hy]; cases t <;> exact h
      · cases t
        · exact ⟨_, _, _, rfl, h⟩
        · exact ⟨_, _, _, rfl, h⟩
    · exact (Dt.fail h).elim
  · rename_i it
    split at h
    · rename_i kk q hit
      split at h
      · rename_i ver' s pos hl
        simp only [aop, hit, hl]
        cases hb : Nat.blt pos s.size with
        | true => simp only [hb, cond_true] at h ⊢; exact ⟨_, _, _, rfl, h⟩
        | false => simp only [hb, cond_false] at h ⊢; exact ⟨_, _, _, rfl, h⟩
      · exact (Dt.fail h).elim
    · exact (Dt.fail h).elim
  · split at h
    · split at h
      · exact (Dt.fail h).elim
      · rename_i r' H' ha; exact ⟨_, _, _, ha, h⟩
    · rename_i x hs'
      generalize (hard op || _) = hh at h
      cases hh with
      | true =>
        simp only [cond_true] at h
        split at h
        · split at h
          · rename_i p a H' ha
            exact ⟨_, _, _, aopN_ok ha h.1, h.2⟩
          · exact (Dt.fail h).elim
        · split at h
          · rename_i p a H' ha
            exact ⟨_, _, _, aopN_ok ha h.1, h.2⟩
          · exact (Dt.fail h).elim
        · split at h
          · rename_i p a H' ha
            exact ⟨_, _, _, aopN_ok ha h.1, h.2⟩
          · exact (Dt.fail h).elim
        · split at h
          · rename_i p a H' ha
            exact ⟨_, _, _, aopN_ok ha h.1, h.2⟩
          · exact (Dt.fail h).elim
        · split at h
          · rename_i p a H' ha
            exact ⟨_, _, _, aopN_ok ha h.1, h.2⟩
          · exact (Dt.fail h).elim
        · split at h
          · rename_i p a H' ha
            exact ⟨_, _, _, aopN_ok ha h.1, h.2⟩
          · exact (Dt.fail h).elim
        · split at h
          · exact (Dt.fail h).elim
          · rename_i r' H' ha; exact ⟨_, _, _, ha, h⟩
        · exact (Dt.fail h).elim
      | false =>
        simp only [cond_false] at h
        split at h
        · exact (Dt.fail h).elim
        · rename_i r' H' ha; exact ⟨_, _, _, ha, h⟩

theorem evOD_ok {cl : CallF} {clD : CallD R} {C : Cx} {fb nt : Nat} {ops : Array Oper} {o : Oper} {st : St} {hs : List Hn} {k : St → List Hn → Dt R} {r : R} (h : (evOD cl clD C fb nt ops o st hs k).ok r) :
    (∃ s1 h1, evO cl C fb nt ops o st = some s1 ∧ (k s1 h1).ok r) ∨
    (∃ f args ats, wantA ops st.T o = some true ∧ o.op = .call { callee := .value f, args := args, argTypes := ats } ∧ (clD (evA C st.T f) (args.toList.map (evA C st.T)) st hs fun r s1 h1 => match putA nt st.T o.dst r with
            | none => .done none
            | some T => k { s1 with T := T } h1).ok r) := by
  unfold evOD at h
  unfold evO
  rcases wantD_ok h with ⟨hw, h⟩ | ⟨hw, h⟩
  · rw [hw]
    simp only
    split at h
    · rename_i f args ats ho
      split at h
      · refine .inl ?_
        rw [ho]
        simp only
        obtain ⟨h1, h2⟩ := h
        rw [h1]
        split at h2
        · exact (Dt.fail h2).elim
        · rename_i T hT; exact ⟨_, _, by simp only [hT, Option.map_some], h2⟩
      · exact .inr ⟨f, args, ats, trivial, ho, h⟩
    · rename_i hop
      refine .inl ?_
      obtain ⟨a, H', hs', ha, h⟩ := opD_ok h
      split at h
      · exact (Dt.fail h).elim
      · rename_i T hT
        refine ⟨_, _, ?_, h⟩
        split
        · rename_i f args ats ho; exact absurd ho (hop _ _ _)
        · rw [ha]; simp only [hT, Option.map_some]
  · refine .inl ?_
    rw [hw]
    simp only
    split at h
    · exact (Dt.fail h).elim
    · rename_i T hT; exact ⟨_, _, by simp [hT], h⟩

/-- The calls of a region that draws know the specifications. -/
def KnowsSp (C : Cx) (clK : CallK) : Prop := ∀ (g : FuncId) (first cap args : List AV) (H : Tr Ent) (r : AV), C.mode g = .spec → (first ++ args ++ cap).all closed = true → C.spec g (first ++ args ++ cap) = some r → clK (.fn (.func g) first cap) args H = some r

theorem evDWD_ok {clK : CallK} {C : Cx} (hK : KnowsSp C clK) {fb nt : Nat} {T0 : Tr AV} {ver : Nat} {o : Oper} {i : DI} {ks : List Nat} {T : Tr AV} {H : Tr Ent} {hs : List Hn} {k : Tr AV → Tr Ent → List Hn → Dt R} {r : R} (h : (evDWD clK C fb nt T0 ver o i ks T H hs k).ok r) :
    ∃ T1 H1 h1, evDW clK C fb nt T0 ver o i ks T H = some (T1, H1) ∧ (k T1 H1 h1).ok r := by
  have dflt : ∀ {h1 : List Hn}, (match evDW clK C fb nt T0 ver o i ks T H with | none => (.done none : Dt R) | some (T1, H1) => k T1 H1 h1).ok r → ∃ T1 H1 h1, evDW clK C fb nt T0 ver o i ks T H = some (T1, H1) ∧ (k T1 H1 h1).ok r := by
    intro h1 h
    split at h
    · exact (Dt.fail h).elim
    · rename_i T1 H1 he; exact ⟨T1, H1, h1, he, h⟩
  unfold evDWD at h
  split at h
  · exact dflt h
  · rename_i x hs'
    split at h
    · rename_i f args ats as r' hcls hop
      split at h
      · rename_i g first cap hev
        split at h
        · rename_i hm
          generalize hc : (first ++ args.toList.map (evA C T) ++ cap).all closed = c at h
          cases c with
          | false => exact (Dt.fail h).elim
          | true =>
            obtain ⟨⟨_, hsp⟩, h⟩ := h
            have hcl := hK g first cap (args.toList.map (evA C T)) (hide H ks) r' hm hc hsp
            split at h
            · exact (Dt.fail h).elim
            · rename_i T1 hT
              refine ⟨T1, H, hs', ?_, h⟩
              unfold evDW
              rw [hcls, hop]
              simp only [hev, hcl, hT, Option.map_some]
        · exact (Dt.fail h).elim
      · exact (Dt.fail h).elim
    · rename_i c op x' _ _
      split at h
      · rename_i els hels
        generalize hst : ((match i.cls with | 0 => true | 1 => true | _ => false) && stays o.op) = b at h
        cases b with
        | false => exact (Dt.fail h).elim
        | true =>
          simp only [cond_true] at h
          simp only [Bool.and_eq_true] at hst
          obtain ⟨hc, hst⟩ := hst
          split at h
          · rename_i p a H' ha
            obtain ⟨hp, h⟩ := h
            have haop := aopN_ok ha hp
            split at h
            · exact (Dt.fail h).elim
            · rename_i T1 hT
              refine ⟨T1, H, hs', ?_, h⟩
              unfold evDW
              split
              · rename_i hcls
                rw [hcls] at haop
                simp only at haop
                simp only [hst, cond_true]
                rw [haop]
                simp only [hT, Option.map_some]
              · rename_i hcls
                rw [hcls] at haop
                simp only at haop
                have hnc : ∀ f args ats, o.op ≠ .call { callee := .value f, args := args, argTypes := ats } := fun f args ats e => by rw [e] at hst; simp [stays] at hst
                have hnb : ∀ t l p, o.op ≠ .buildSlice t l p := fun t l p e => by rw [e] at hst; simp [stays] at hst
                split
                · rename_i f args ats e; exact absurd e (hnc _ _ _)
                · rename_i t l p e; exact absurd e (hnb _ _ _)
                · simp only [hst, cond_true]
                  rw [haop]
                  simp only [hT, Option.map_some]
              · rename_i hcls; rw [hcls] at hc; cases hc
              · rename_i hcls; rw [hcls] at hc; cases hc
              · rename_i n0 n1 n2 n3
                split at hc
                · rename_i e; exact absurd e n0
                · rename_i e; exact absurd e n1
                · cases hc
          · exact (Dt.fail h).elim
      · split at h
        · exact dflt h
        · exact dflt h
        · exact dflt h
        · exact dflt h

theorem evDOD_ok {clK : CallK} {C : Cx} (hK : KnowsSp C clK) {fb nt : Nat} {ops : Array Oper} {T0 : Tr AV} {ver : Nat} {o : Oper} {i : DI} {T : Tr AV} {H : Tr Ent} {hs : List Hn} {k : Tr AV → Tr Ent → List Hn → Dt R} {r : R} (h : (evDOD clK C fb nt ops T0 ver o i T H hs k).ok r) :
    ∃ T1 H1 h1, evDO clK C fb nt ops T0 ver o i T H = some (T1, H1) ∧ (k T1 H1 h1).ok r := by
  unfold evDOD at h
  unfold evDO
  split at h
  · exact (Dt.fail h).elim
  · rename_i ks hks
    rw [hks]
    simp only
    cases hf : ownFree fb T0 i ks with
    | false => simp only [hf, cond_false] at h; exact (Dt.fail h).elim
    | true =>
      simp only [hf, cond_true] at h ⊢
      rcases wantD_ok h with ⟨hw, h⟩ | ⟨hw, h⟩
      · rw [hw]
        simp only
        split at h
        · rename_i c a b hc ho
          have hstay : stays o.op = true := by rw [ho]; rfl
          unfold evDW
          rw [hc]
          simp only [hstay, cond_true]
          rw [ho]
          split at h
          · rename_i t ht
            rw [aop_pick ht]
            have put : ∀ {x : AV}, (match putA nt T o.dst x with | none => Dt.done none | some T1 => k T1 H hs).ok r → ∃ T1 H1 h1, (putA nt T o.dst x).map (·, H) = some (T1, H1) ∧ (k T1 H1 h1).ok r := by
              intro x hx
              split at hx
              · exact (Dt.fail hx).elim
              · rename_i T1 hT; exact ⟨T1, H, hs, by simp [hT], hx⟩
            split at h
            · rename_i x y hx hy
              rw [hx, hy]
              have : (bif t then (AV.v (.bool x)) else AV.v (.bool y)) = .v (.bool (bif t then x else y)) := by cases t <;> rfl
              simp only [this]
              exact put h
            · cases t
              · exact put h
              · exact put h
          · exact (Dt.fail h).elim
        · obtain ⟨T1, H1, h1, he, h⟩ := evDWD_ok hK h; exact ⟨T1, H1, h1, he, h⟩
      · rw [hw]
        simp only
        split at h
        · exact (Dt.fail h).elim
        · rename_i T1 hT; exact ⟨T1, H, hs, by simp [hT], h⟩

theorem evDsD_ok {clK : CallK} {C : Cx} (hK : KnowsSp C clK) {fb nt : Nat} {ops : Array Oper} {T0 : Tr AV} {k : Tr AV → Tr Ent → List Hn → Dt R} {r : R} : ∀ (os : List Oper) (is : List DI) (v : Nat) (T : Tr AV) (H : Tr Ent) (hs : List Hn),
    (evDsD clK C fb nt ops T0 v os is T H hs k).ok r → ∃ T1 H1 h1, evDs clK C fb nt ops T0 v os is T H = some (T1, H1) ∧ (k T1 H1 h1).ok r
  | [], [], v, T, H, hs, h => ⟨T, H, hs, rfl, h⟩
  | [], _ :: _, _, _, _, _, h => (Dt.fail h).elim
  | _ :: _, [], _, _, _, _, h => (Dt.fail h).elim
  | o :: os, i :: is, v, T, H, hs, h => by
    simp only [evDsD] at h
    obtain ⟨T1, H1, h1, he1, h⟩ := evDOD_ok hK h
    obtain ⟨T2, H2, h2, he2, h⟩ := evDsD_ok hK os is (v + 1) T1 H1 h1 h
    exact ⟨T2, H2, h2, by simp only [evDs, he1, he2], h⟩

end
end Go.Vm
