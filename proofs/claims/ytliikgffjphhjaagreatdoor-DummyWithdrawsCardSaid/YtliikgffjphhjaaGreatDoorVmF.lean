/- A small evaluator over abstract values: the evaluator with its branches ahead of what follows them: for values that are not known. -/
import Derived.Test.YtliikgffjphhjaaGreatDoorVmE
namespace Go.Vm
inductive Dt (R : Type) where
 | done (x : Option R)
 | need (p : Prop) (t : Dt R)
def Dt.ok {R : Type} : Dt R → R → Prop
 | .done x, r => x = some r
 | .need p t, r => p ∧ t.ok r
structure Dt.Ok {R : Type} (t : Dt R) (r : R) : Prop where
 ok : t.ok r
inductive Hn where
 | skip
 | chk (els : List AV)
 | ld (a : AV)
 | eq (a : AV)
 | loop (p : Nat) (ts : List Tmp) (ks : List Nat) (ts2 : List Tmp) (ks2 : List Nat) (ex : Ex) (vs : List AV) (es : List (Bool × Blk))
 | call (r : AV) (st : St → St)
 | sp (as : List AV) (r : AV)
 | st (e : AV)
 | mu (ks vs : List AV)
 | dv (a : AV)
 | ar (a : AV)
 | cl
 | mk
 | cp
 | sc
 | ap (els : List AV)
 | il
 | as (d : Tmp) (b : Bool)
 | fz (d : Tmp)
 | fp (d : Tmp)
 | fb (d : Tmp) (j : Nat)
 | ef (es : List AV)
 | br (a b : List Hn)
def hard : Op → Bool
 | .indexAddr .. | .slice .. | .lookup .. => true
 | .call { callee := .builtin .append, .. } => true
 | _ => false
def mapUpd (C : Cx) (t : TypeId) (ks vs : List AV) (i v : AV) : Option (List AV × List AV) :=
 match C.ty t, toV i with
 | some { desc := .map kt _, .. }, some key =>
  match keyAt C kt ks false key with
  | some (some j) => (match (ks[j]?).bind toV with
   | some old => match pureRun C.P (Instr.keyThatStays old key) with
    | some _ => some (ks.set j i, vs.set j v)
    | none => none
   | none => none)
  | some none => some (ks ++ [i], vs ++ [v])
  | none => none
 | _, _ => none
theorem mapUpd_ok {C : Cx} {H : Tr Ent} {t : TypeId} {k r : Nat} {ks vs ks' vs' : List AV} {i v : AV} {ver : Nat} (hl : live H k r = some { ver := ver, fz := false, blk := .map ks vs }) (h : mapUpd C t ks vs i v = some (ks', vs')) :
  amapUpdate C H t (.mp k r) i v = some (H.set k { ver := r, fz := false, blk := .map ks' vs' }) := by
 unfold mapUpd at h
 unfold amapUpdate
 split at h
 ·rename_i kt _ _ _ _ _ key hty hkey
  rw [hty, hkey]
  simp only [hl]
  split at h
  ·rename_i j hj
   rw [hj]
   simp only
   split at h
   ·rename_i old ho
    rw [ho]
    simp only
    split at h
    ·rename_i x hx
     simp only [Option.some.injEq, Prod.mk.injEq] at h
     obtain ⟨rfl, rfl⟩ := h
     rw [hx]
    ·cases h
   ·cases h
  ·rename_i hj
   rw [hj]
   simp only [Option.some.injEq, Prod.mk.injEq] at h
   obtain ⟨rfl, rfl⟩ := h
   rfl
  ·cases h
 ·cases h
def aopN (C : Cx) (ev : Operand → AV) (H : Tr Ent) (key ver : Nat) (type : TypeId) (els : List AV) : Op → Option (Prop × AV × Tr Ent)
 | .indexAddr t x i => match asN (ev i) with
  | none => none
  | some n => match ev x with
   | .rsl sz es _ => (match elemTI C t, els with
    | some te, [a] => bif Nat.beq te.size sz then (cells? a).map fun cs => (es[n]? = some a, .rptr cs, H) else none
    | _, _ => none)
   | .sl k r sz lo len => (match elemTI C t, live H k r with
    | some te, some { blk := .arr .., .. } => bif Nat.beq te.size sz then some (n < len, .eptr k r sz (lo + n) 0, H) else none
    | _, _ => none)
   | .ptr k r off => (match C.ty t with
    | some { desc := .array len elem, .. } => (match C.ty elem with
     | some ti => some (n < len, .ptr k r (off + n * ti.size), H)
     | none => none)
    | _ => none)
   | _ => none
 | .load t a => match ev a, els with
  | .ptr k r off, [x] => (match live H k r, C.ty t with
   | some { blk := .box cs, .. }, some ti => bif ti.agg then none else some (cs[off]? = some x, x, H)
   | _, _ => none)
  | .eptr k r sz i off, [x] => (match live H k r with
   | some { blk := .arr sz' es _, .. } => bif Nat.beq sz sz' then (match cells? x with
    | some cs => (partA C t (cs.drop off) 0).map fun v => (es[i]? = some x, v, H)
    | none => none) else none
   | _ => none)
  | _, _ => none
 | .index t x i => match els with
  | [a] => some (aindex C t (ev x) (ev i) = some a, a, H)
  | _ => none
 | .convert s d x => match els with
  | [a] => some (aconv C s d (ev x) = some a, a, H)
  | _ => none
 | .slice t x lo hi none => match ev x with
  | .v (.string s) => (match els with
   | [a] => some (aslice C .leaf t (.v (.string s)) (lo.map ev) (hi.map ev) none = some a, a, H)
   | _ => none)
  | .rsl sz es ex => (match elemTI C t, (match lo with | none => some 0 | some a => asN (ev a)), (match hi with | none => some es.length | some a => asN (ev a)) with
   | some te, some l, some h => bif Nat.beq te.size sz then (match els with
    | [a, _] => some ((l ≤ h ∧ h ≤ es.length) ∧ AV.rsl sz ((es.drop l).take (h - l)) (ex && Nat.beq h es.length) = a, a, H)
    | _ => some (l ≤ h ∧ h ≤ es.length, .rsl sz ((es.drop l).take (h - l)) (ex && Nat.beq h es.length), H)) else none
   | _, _, _ => none)
  | .sl k r sz lo0 len => (match els with
   | [] => (match elemTI C t, (match lo with | none => some 0 | some a => asN (ev a)), (match hi with | none => some len | some a => asN (ev a)), live H k r with
    | some te, some l, some h, some { blk := .arr sz' es _, .. } => bif Nat.beq te.size sz && Nat.beq sz sz' then some (l ≤ h ∧ lo0 + h ≤ es.length, .sl k r sz (lo0 + l) (h - l), H) else none
    | _, _, _, _ => none)
   | _ => none)
  | _ => none
 | .slice t x (some lo) (some hi) (some mx) => match ev x with
  | .sl k r sz lo0 _ => (match els with
   | [] => (match elemTI C t, asN (ev lo), asN (ev hi), asN (ev mx), live H k r with
    | some te, some l, some h, some m, some { blk := .arr sz' es _, .. } => bif Nat.beq te.size sz && Nat.beq sz sz' then some (l ≤ h ∧ h ≤ m ∧ lo0 + m ≤ es.length ∧ Nat.beq l m = false, .bad, H) else none
    | _, _, _, _, _ => none)
   | _ => none)
  | _ => none
 | .store t a x => match ev a, els with
  | .eptr k r sz i off, [e] => (match C.ty t, cells? (ev x), live H k r, cells? e with
   | some ti, some vs, some { fz := false, blk := .arr sz' es ex, .. }, some cs =>
    bif Nat.beq vs.length ti.size && Nat.beq sz sz' && Nat.ble (off + vs.length) cs.length then
     (mkEl e (splice cs off vs)).map fun e' => (es[i]? = some e, .v (.tuple #[]), H.set k { ver := r, fz := false, blk := .arr sz' (es.set i e') ex })
    else none
   | _, _, _, _ => none)
  | _, _ => none
 | .mapUpdate t m i v => match ev m, els with
  | .mp k r, [.tup ks', .tup vs'] => (match live H k r with
   | some { fz := false, blk := .map ks vs, .. } => some (mapUpd C t ks vs (ev i) (ev v) = some (ks', vs'), .v (.tuple #[]), H.set k { ver := r, fz := false, blk := .map ks' vs' })
   | _ => none)
  | _, _ => none
 | .binOp o t x y _ => match els with
  | [a] => some (abin C o t x y (ev x) (ev y) = some a, a, H)
  | _ => none
 | .lookup t x i ok => match ev x, els with
  | .rmp ks vs, [a] => some (alookup C .leaf t (.rmp ks vs) (ev i) ok = some a, a, H)
  | .mp k r, [a] => (match live H k r with
   | some { blk := .map ks vs, .. } => some (alookup C .leaf t (.rmp ks vs) (ev i) ok = some a, a, H)
   | _ => none)
  | _, _ => none
 | .call { callee := .builtin .append, args, argTypes } => match args.toList.map ev, argTypes.toList with
  | [s, x], [st, xt] => (match elemTI C st, TI.dsc (C.ty xt), elemsOf H x with
   | some { size := sz, bytes := by_, zero := some z, .. }, some xd, some (x1 :: xs) =>
    bif notSeq xd then none else
    (match s with
    | .v (.slice none 0 0) => some (allSz sz (x1 :: xs) = true ∧ z.cells.size = sz ∧ (x1 :: xs).length * by_ ≤ 35184372088832 ∧ (x1 :: xs).length ≤ 35184372088832 ∧ by_ ≠ 0,
      .sl key ver sz 0 (x1 :: xs).length, H.set key { ver := ver, fz := false, blk := .arr sz (x1 :: xs) false })
    | .rsl sz' es true => bif Nat.beq sz sz' then some (allSz sz (x1 :: xs) = true ∧ z.cells.size = sz ∧ (es ++ (x1 :: xs)).length * by_ ≤ 35184372088832 ∧ (es ++ (x1 :: xs)).length ≤ 35184372088832 ∧ by_ ≠ 0,
      .sl key ver sz 0 (es ++ (x1 :: xs)).length, H.set key { ver := ver, fz := false, blk := .arr sz (es ++ (x1 :: xs)) false }) else none
    | .sl k r sz' 0 len => (match live H k r with
     | some { fz := false, blk := .arr sz'' es false, .. } => bif Nat.beq sz sz' && Nat.beq sz sz'' then
      some (len = es.length ∧ allSz sz (x1 :: xs) = true ∧ z.cells.size = sz ∧ (es ++ (x1 :: xs)).length * by_ ≤ 35184372088832 ∧ (es ++ (x1 :: xs)).length ≤ 35184372088832 ∧ by_ ≠ 0,
       .sl key ver sz 0 (es ++ (x1 :: xs)).length, (H.del k).set key { ver := ver, fz := false, blk := .arr sz (es ++ (x1 :: xs)) false }) else none
     | _ => none)
    | _ => none)
   | _, _, _ => none)
  | _, _ => none
 | .call { callee := .builtin .max, args, argTypes } => match els, toVL (args.toList.map ev) with
  | [a], some vs => some (pureOp C (Builtin.max_ argTypes.toList.toArray type vs.toArray) = some a, a, H)
  | _, _ => none
 | _ => none
theorem Tr.put_same {α : Type} {v : Option α} : ∀ (f : Nat) (t : Tr α) (i : Nat) {x : α}, v = some x → t.get i = some x → i + 1 < 2 ^ f → Tr.put v f t i = t
 | 0, t, i, x, _, _, hf => by simp at hf
 | f + 1, .leaf, i, x, _, h, _ => by rw [Tr.get_leaf] at h; cases h
 | f + 1, .node o l r, 0, x, hv, h, _ => by
  unfold Tr.get at h
  unfold Tr.put
  rw [hv, h]
 | f + 1, .node o l r, n + 1, x, hv, h, hf => by
  unfold Tr.get at h
  unfold Tr.put
  have hlt : n / 2 + 1 < 2 ^ f := by rw [Nat.pow_succ] at hf; omega
  cases hb : Nat.beq (n % 2) 0 with
  | true => rw [hb, cond_true] at h; rw [cond_true, Tr.put_same f l (n / 2) hv h hlt]
  | false => rw [hb, cond_false] at h; rw [cond_false, Tr.put_same f r (n / 2) hv h hlt]
def elemsN (H : Tr Ent) (x : AV) : Option (Prop × List AV) := match x with
 | .sl k r sz lo len => (match live H k r with
  | some { blk := .arr sz' es _, .. } => bif Nat.beq sz sz' then some (lo + len ≤ es.length, (es.drop lo).take len) else none
  | _ => none)
 | x => (elemsOf H x).map fun xs => (True, xs)
theorem elemsN_ok {H : Tr Ent} {x : AV} {q : Prop} {xs : List AV} (h : elemsN H x = some (q, xs)) (hq : q) : elemsOf H x = some xs := by
 unfold elemsN at h
 split at h
 ·rename_i k r sz lo len
  split at h
  ·rename_i ver fz sz' es ex hl
   cases hb : Nat.beq sz sz' with
   | false => simp [hb] at h
   | true =>
    simp only [hb, cond_true, Option.some.injEq, Prod.mk.injEq] at h
    obtain ⟨rfl, rfl⟩ := h
    simp only [elemsOf, hl, hb, Nat.ble_eq_true_of_le hq, Bool.and_self, cond_true]
  ·cases h
 ·simp only [Option.map_eq_some_iff, Prod.mk.injEq] at h
  obtain ⟨ys, hy, _, rfl⟩ := h
  exact hy
def aopM (C : Cx) (ev : Operand → AV) (H : Tr Ent) (key ver : Nat) (op : Op) (x : Hn) : Option (Prop × AV × Tr Ent) :=
 match op, x with
 | .makeSlice t l c, .mk => (match elemTI C t, asN (ev l), asN (ev c) with
  | some { size := sz, bytes := by_, zero := some z, .. }, some l, some c =>
   some (l ≤ c ∧ c * by_ ≤ 35184372088832 ∧ c ≤ 35184372088832 ∧ z.cells.size = sz ∧ sz ≠ 0, .sl key ver sz 0 l, H.set key { ver := ver, fz := false, blk := .arr sz (List.replicate c (ofV z)) true })
  | _, _, _ => none)
 | .call { callee := .builtin .copy, args, argTypes }, .cp => (match args.toList.map ev, argTypes.toList with
  | [d, x], st :: _ => (match elemTI C st, elemsOf H x, d with
   | some { size := sz, .. }, some xs, .sl k r sz' 0 len => (match live H k r with
    | some { fz := false, blk := .arr sz'' es ex, .. } => bif Nat.beq sz sz' && Nat.beq sz sz'' then
      some (allSz sz xs = true ∧ len = es.length ∧ xs.length = len, gI xs.length, H.set k { ver := r, fz := false, blk := .arr sz xs ex })
     else none
    | _ => none)
   | _, _, _ => none)
  | _, _ => none)
 | .call { callee := .builtin .append, args, argTypes }, .cp => (match args.toList.map ev, argTypes.toList with
  | [s, x], [st, xt] => (match elemTI C st, TI.dsc (C.ty xt), elemsN H x, s with
   | some { size := sz, zero := some z, .. }, some xd, some (q, xs), .sl k r sz' lo len => bif notSeq xd then none else (match live H k r with
    | some { fz := false, blk := .arr sz'' es ex, .. } => bif Nat.beq sz sz' && Nat.beq sz sz'' then
      some (q ∧ allSz sz xs = true ∧ z.cells.size = sz ∧ lo + len + xs.length ≤ es.length, .sl k r sz lo (len + xs.length), H.set k { ver := r, fz := false, blk := .arr sz (splice es (lo + len) xs) ex })
     else none
    | _ => none)
   | _, _, _, _ => none)
  | _, _ => none)
 | .call { callee := .builtin .clear, args, argTypes }, .cp => (match args.toList.map ev, argTypes.toList with
  | [x], [t] => (match C.ty t, elemTI C t, x with
   | some _, some { size := sz1, zero := some z, .. }, .sl k r sz lo len => (match live H k r with
    | some { fz := false, blk := .arr sz' es ex, .. } => bif Nat.beq sz sz' && Nat.beq sz sz1 && Nat.beq z.cells.size sz then
      some (lo + len ≤ es.length ∧ allSz sz (List.replicate len (ofV z)) = true, .v (.tuple #[]), H.set k { ver := r, fz := false, blk := .arr sz (splice es lo (List.replicate len (ofV z))) ex })
     else none
    | _ => none)
   | _, _, _ => none)
  | _, _ => none)
 | .slice t x lo hi none, .sc => (match ev x with
  | .sl k r sz lo0 len => (match elemTI C t, (match lo with | none => some 0 | some a => asN (ev a)), (match hi with | none => some len | some a => asN (ev a)), live H k r with
   | some te, some l, some h, some { blk := .arr sz' es _, .. } => bif Nat.beq te.size sz && Nat.beq sz sz' then some (l ≤ h ∧ h ≤ len ∧ lo0 + h ≤ es.length, .sl k r sz (lo0 + l) (h - l), H) else none
   | _, _, _, _ => none)
  | _ => none)
 | _, _ => none
theorem aopM_ok {C : Cx} {ev : Operand → AV} {H H' : Tr Ent} {key ver : Nat} {type : TypeId} {op : Op} {x : Hn} {p : Prop} {a : AV} (h : aopM C ev H key ver op x = some (p, a, H')) (hp : p) : aop C ev H key ver type op = some (a, H') := by
 unfold aopM at h
 split at h
 ·rename_i t l c
  simp only [aop, amakeSlice]
  split at h
  ·rename_i dsc sz ag by_ z l' c' hte hl hc
   simp only [Option.some.injEq, Prod.mk.injEq] at h
   obtain ⟨rfl, rfl, rfl⟩ := h
   obtain ⟨p1, p2, p3, p4, p5⟩ := hp
   have c3 : Nat.beq sz 0 = false := by cases hb : Nat.beq sz 0 with | false => rfl | true => exact absurd (Nat.eq_of_beq_eq_true hb) p5
   simp only [hte, hl, hc, Nat.ble_eq_true_of_le p1, Nat.ble_eq_true_of_le p2, Nat.ble_eq_true_of_le p3, beq_of' p4, c3, Bool.not_false, Bool.and_self, cond_true]
  ·cases h
 ·rename_i args ats
  simp only [aop]
  split at h
  ·rename_i d x st r' hargs hats
   rw [hargs, hats]
   simp only [abuiltin, acopy]
   split at h
   ·rename_i dsc sz ag by_ z xs k r sz' len hte hxs
    rw [hte, hxs]
    simp only
    split at h
    ·rename_i ver' sz'' es ex hl
     generalize hbb : (Nat.beq sz sz' && Nat.beq sz sz'') = bb at h
     cases bb with
     | false => simp at h
     | true =>
      simp only [cond_true, Option.some.injEq, Prod.mk.injEq] at h
      obtain ⟨rfl, rfl, rfl⟩ := h
      obtain ⟨p1, p2, p3⟩ := hp
      have c4 : Nat.ble (0 + len) es.length = true := Nat.ble_eq_true_of_le (by omega)
      have hmin : Nat.min xs.length len = xs.length := by rw [p3]; exact Nat.min_self _
      have hsp : splice es 0 xs = xs := by
       unfold splice
       rw [List.take_zero, List.nil_append, List.drop_eq_nil_of_le (by omega), List.append_nil]
      simp only [p1, Bool.not_true, cond_false, hl, hbb, c4, Bool.and_self, cond_true, hmin, List.take_length, hsp]
    ·cases h
   ·cases h
  ·cases h
 ·rename_i args ats
  simp only [aop]
  split at h
  ·rename_i s x st xt hargs hats
   rw [hargs, hats]
   simp only [abuiltin, aappend]
   split at h
   ·rename_i dsc sz ag by_ z xd qq xs k r sz' lo len hte hxd hxs0
    cases hq : notSeq xd with
    | true => simp [hq] at h
    | false =>
     simp only [hq, cond_false] at h ⊢
     split at h
     ·rename_i ver' sz'' es ex hl
      generalize hbb : (Nat.beq sz sz' && Nat.beq sz sz'') = bb at h
      cases bb with
      | false => simp at h
      | true =>
       simp only [cond_true, Option.some.injEq, Prod.mk.injEq] at h
       obtain ⟨rfl, rfl, rfl⟩ := h
       obtain ⟨p0, p1, p2, p3⟩ := hp
       have hxs := elemsN_ok hxs0 p0
       rw [hte, hxd, hxs]
       simp only [hq, cond_false]
       have c3 : Nat.beq z.cells.size sz = true := by rw [p2]; exact Nat.beq_refl sz
       simp only [p1, c3, Bool.and_self, Bool.not_true, cond_false]
       cases xs with
       | nil =>
        have hsp : splice es (lo + len) [] = es := by
         unfold splice
         rw [List.append_nil, List.length_nil, Nat.add_zero, List.take_append_drop]
        have hv := (live_some hl).2
        simp only at hv
        subst hv
        simp only [Bool.and_eq_true] at hbb
        have hz1 := Nat.eq_of_beq_eq_true hbb.1
        have hz2 := Nat.eq_of_beq_eq_true hbb.2
        subst hz1; subst hz2
        rw [hsp, show H.set k { ver := ver', fz := false, blk := .arr sz es ex } = H from Tr.put_same (k + 1) H k rfl (live_some hl).1 (enough k)]
        rfl
       | cons x1 xs =>
        have hne : Nat.beq (lo + len) es.length = false := by
         cases hb : Nat.beq (lo + len) es.length with
         | false => rfl
         | true => have := Nat.eq_of_beq_eq_true hb; simp only [List.length_cons] at p3; omega
        simp only [hl, hbb, Bool.not_true, cond_false, hne, Nat.ble_eq_true_of_le p3, cond_true]
     ·cases h
   ·cases h
  ·cases h
 ·rename_i args ats
  simp only [aop]
  split at h
  ·rename_i x t hargs hats
   rw [hargs, hats]
   simp only [abuiltin, aclear]
   split at h
   ·rename_i ti dsc sz1 ag by_ z k r sz lo len hty hte
    rw [hty, hte]
    simp only
    split at h
    ·rename_i ver' sz' es ex hl
     generalize hbb : (Nat.beq sz sz' && Nat.beq sz sz1 && Nat.beq z.cells.size sz) = bb at h
     cases bb with
     | false => simp at h
     | true =>
      simp only [cond_true, Option.some.injEq, Prod.mk.injEq] at h
      obtain ⟨rfl, rfl, rfl⟩ := h
      obtain ⟨p1, p2⟩ := hp
      simp only [hl, hbb, Nat.ble_eq_true_of_le p1, p2, Bool.and_self, cond_true, Option.map_some]
    ·cases h
   ·cases h
  ·cases h
 ·rename_i t x lo hi
  simp only [aop, aslice]
  split at h
  ·rename_i k r sz lo0 len hx
   split at h
   ·rename_i te l hh ver' fz' sz' es ex hte hlo hhi hl
    generalize hbb : (Nat.beq te.size sz && Nat.beq sz sz') = bb at h
    cases bb with
    | false => simp at h
    | true =>
     simp only [cond_true, Option.some.injEq, Prod.mk.injEq] at h
     obtain ⟨rfl, rfl, rfl⟩ := h
     obtain ⟨p1, p2, p3⟩ := hp
     have hle : Nat.ble l hh = true := Nat.ble_eq_true_of_le p1
     have hab : abounds len (lo.map ev) (hi.map ev) (Option.map ev none) = some (l, hh, none) := by
      cases lo <;> cases hi <;> simp only [Option.some.injEq] at hlo hhi <;> (try subst hlo) <;> (try subst hhi) <;> simp [abounds, *]
     simp only [hx, hte, hab, hl, hbb, Nat.ble_eq_true_of_le p3, Bool.and_self, cond_true, Option.map_some]
   ·cases h
  ·cases h
 ·cases h
section
variable {R : Type}
def setB (T : Tr AV) (d : Tmp) (b : Bool) : Tr AV := T.set d (.v (.bool b))
def setC (T : Tr AV) (c : Operand) (b : Bool) : Tr AV := match c with
 | .tmp t => setB T t b
 | _ => T
def wantD (ops : Array Oper) (T : Tr AV) (o : Oper) (kt kf : Tr AV → Dt R) : Dt R :=
 match o.guard with
 | none => kt T
 | some (j, want) => match (ops[j]?).bind (·.dst) with
  | none => kf T
  | some d => match T.get d with
   | some (.v (.bool b)) => bif want then (bif b then kt (setB T d true) else kf (setB T d false)) else (bif b then kf (setB T d true) else kt (setB T d false))
   | some (.v _) => kf T
   | _ => .done none
def asD (hs : List Hn) (T : Tr AV) (t : Option Tmp) (k : Tr AV → List Hn → Dt R) : Dt R :=
 match hs with
 | .as d b :: hs' => (match t with
  | some d' => bif Nat.beq d d' then (match T.get d with
   | some (.v (.bool x)) => .need (x = b) (k (setB T d b) hs')
   | _ => .done none) else k T (.as d b :: hs')
  | none => k T (.as d b :: hs'))
 | hs => k T hs
def fzD (hs : List Hn) (st : St) (k : St → List Hn → Dt R) : Dt R :=
 match hs with
 | .fz d :: hs' => (match st.T.get d with
  | some (.sl kk r sz 0 len) => (match live st.H kk r with
   | some { fz := false, blk := .arr sz' es _, .. } => bif Nat.beq sz sz' then
     .need (ClosedL es ∧ len = es.length) (k { st with T := st.T.set d (.rsl sz es false), H := st.H.del kk } hs')
    else .done none
   | _ => .done none)
  | some (.mp kk r) => (match live st.H kk r with
   | some { fz := false, blk := .map ks vs, .. } => .need (ClosedL ks ∧ ClosedL vs) (k { st with T := st.T.set d (.rmp ks vs), H := st.H.del kk } hs')
   | _ => .done none)
  | _ => .done none)
 | .fp d :: hs' => (match st.T.get d with
  | some (.sl kk r sz 0 len) => (match live st.H kk r with
   | some { fz := false, blk := .arr sz' es _, .. } => bif Nat.beq sz sz' then
     .need (ClosedL es ∧ len ≤ es.length) (k { st with T := st.T.set d (.rsl sz (es.take len) false), H := st.H.del kk } hs')
    else .done none
   | _ => .done none)
  | _ => .done none)
 | .fb d j :: hs' => (match st.T.get d with
  | some (.ptr kb rb 0) => (match live st.H kb rb with
   | some { fz := false, blk := .box cs, .. } => (match cs[j]? with
    | some (.sl kk r sz 0 len) => (match live st.H kk r with
     | some { fz := false, blk := .arr sz' es _, .. } => bif Nat.beq sz sz' then
       .need (ClosedL es ∧ len = es.length) (k { st with H := (st.H.del kk).set kb { ver := rb, fz := false, blk := .box (cs.set j (.rsl sz es false)) } } hs')
      else .done none
     | _ => .done none)
    | _ => .done none)
   | _ => .done none)
  | _ => .done none)
 | hs => k st hs
def fpD (hs : List Hn) (st : St) (k : St → List Hn → Dt R) : Dt R :=
 match hs with
 | .fp d :: hs' => fzD (.fp d :: hs') st k
 | hs => k st hs
def guardT (ops : Array Oper) (o : Oper) : Option Tmp :=
 match o.guard with
 | none => none
 | some (j, _) => (ops[j]?).bind (·.dst)
def tmpOf : Operand → Option Tmp
 | .tmp t => some t
 | _ => none
def chkEls (op : Op) (ev : Operand → AV) (els : List AV) : List AV := match op with
 | .slice _ x _ _ _ => (match ev x with | .rsl .. => [] | _ => els)
 | _ => els
def opD (C : Cx) (ev : Operand → AV) (H : Tr Ent) (key ver : Nat) (type : TypeId) (op : Op) (hs : List Hn) (k : AV → Tr Ent → List Hn → Dt R) : Dt R :=
 match op with
 | .pick c a b => match ev c with
  | .v (.bool t) => match ev a, ev b with
   | .v (.bool x), .v (.bool y) => k (.v (.bool (bif t then x else y))) H hs
   | x, y => bif t then k x H hs else k y H hs
  | _ => .done none
 | .next it true => match ev it with
  | .itr kk r => match live H kk r with
   | some { fz := false, blk := .siter s pos, .. } =>
    bif Nat.blt pos s.size then k (.tup [gB true, gI pos, .v (.int .i32 (Utf8.decode s pos).1)]) (H.set kk { ver := r, fz := false, blk := .siter s (pos + (Utf8.decode s pos).2) }) hs
    else k (.tup [gB false]) H hs
   | _ => .done none
  | _ => .done none
 | op =>
  match hs with
  | [] => match aop C ev H key ver type op with
   | none => .done none
   | some (r, H') => k r H' []
  | .mk :: hs' => (match aopM C ev H key ver op .mk with
   | some (p, a, H') => .need p (k a H' hs')
   | none => (match aop C ev H key ver type op with
    | none => .done none
    | some (r, H') => k r H' (.mk :: hs')))
  | .cp :: hs' => (match aopM C ev H key ver op .cp with
   | some (p, a, H') => .need p (k a H' hs')
   | none => (match aop C ev H key ver type op with
    | none => .done none
    | some (r, H') => k r H' (.cp :: hs')))
  | .sc :: hs' => (match aopM C ev H key ver op .sc with
   | some (p, a, H') => .need p (k a H' hs')
   | none => (match aop C ev H key ver type op with
    | none => .done none
    | some (r, H') => k r H' (.sc :: hs')))
  | x :: hs' =>
   bif hard op || (match op, x with | .load .., .ld _ => true | .binOp _ _ p _ _, .eq _ => (match ev p with | .agg _ => true | _ => false) | .store _ a _, .st _ => (match ev a with | .eptr .. => true | _ => false) | .mapUpdate .., .mu .. => true | .index .., .ld _ => true | .convert .., .ar _ => true | .binOp .quo _ _ _ _, .dv _ => true | .binOp .rem _ _ _ _, .dv _ => true | .binOp .add _ _ _ _, .ar _ => true | .binOp .sub _ _ _ _, .ar _ => true | .call { callee := .builtin .max, .. }, .ar _ => true | _, _ => false) then
    match x with
    | .chk els => (match aopN C ev H key ver type (chkEls op ev els) op with
     | some (p, a, H') => .need p (k a H' hs')
     | none => .done none)
    | .ld a => (match aopN C ev H key ver type [a] op with
     | some (p, a, H') => .need p (k a H' hs')
     | none => .done none)
    | .eq a => (match aopN C ev H key ver type [a] op with
     | some (p, a, H') => .need p (k a H' hs')
     | none => .done none)
    | .st a => (match aopN C ev H key ver type [a] op with
     | some (p, a, H') => .need p (k a H' hs')
     | none => .done none)
    | .dv a => (match aopN C ev H key ver type [a] op with
     | some (p, a, H') => .need p (k a H' hs')
     | none => .done none)
    | .ar a => (match aopN C ev H key ver type [a] op with
     | some (p, a, H') => .need p (k a H' hs')
     | none => .done none)
    | .mu ks vs => (match aopN C ev H key ver type [.tup ks, .tup vs] op with
     | some (p, a, H') => .need p (k a H' hs')
     | none => .done none)
    | .skip => match aop C ev H key ver type op with
     | none => .done none
     | some (r, H') => k r H' hs'
    | _ => .done none
   else match aop C ev H key ver type op with
    | none => .done none
    | some (r, H') => k r H' (x :: hs')
abbrev CallD (R : Type) := AV → List AV → St → List Hn → (AV → St → List Hn → Dt R) → Dt R
def evOD (cl : CallF) (clD : CallD R) (C : Cx) (fb nt : Nat) (ops : Array Oper) (o : Oper) (st : St) (hs : List Hn) (k : St → List Hn → Dt R) : Dt R :=
 wantD ops st.T o
  (fun T0 => match o.op with
   | .call { callee := .value f, args, .. } =>
    match hs with
    | .call r g :: hs' => .need (cl (evA C T0 f) (args.toList.map (evA C T0)) { st with T := T0 } = some (r, g { st with T := T0 })) (match putA nt T0 o.dst r with
      | none => .done none
      | some T => k { (g { st with T := T0 }) with T := T } hs')
    | hs => clD (evA C T0 f) (args.toList.map (evA C T0)) { st with T := T0 } hs fun r s1 h1 => match putA nt T0 o.dst r with
      | none => .done none
      | some T => k { s1 with T := T } h1
   | op => match hs, o.dst with
    | .cl :: hs', some d => (match aopC C (evA C T0) st.H (fb + d) op with
     | some (p, a, H) => bif Nat.blt d nt then .need p (k { st with T := T0.set d a, H := H, nv := st.nv + 1 } hs') else .done none
     | none => (match aop C (evA C T0) st.H (fb + d) st.nv o.type op with
      | none => .done none
      | some (r, H) => match putA nt T0 (some d) r with
       | none => .done none
       | some T => k { st with T := T, H := H, nv := st.nv + 1 } (.cl :: hs')))
    | hs, _ => opD C (evA C T0) st.H (fb + o.dst.getD 0) st.nv o.type op hs fun r H hs' => match putA nt T0 o.dst r with
     | none => .done none
     | some T => k { st with T := T, H := H, nv := st.nv + 1 } hs')
  (fun T0 => match putA nt T0 o.dst (.v (.tuple #[])) with
   | none => .done none
   | some T => k { st with T := T } hs)
def evOpsD (cl : CallF) (clD : CallD R) (C : Cx) (fb nt : Nat) (ops : Array Oper) : List Oper → St → List Hn → (St → List Hn → Dt R) → Dt R
 | [], st, hs, k => k st hs
 | o :: os, st, hs, k => asD hs st.T (guardT ops o) fun T1 h0 => evOD cl clD C fb nt ops o { st with T := T1 } h0 fun s1 h1 => evOpsD cl clD C fb nt ops os s1 h1 k
def hintEls : Op → (Operand → AV) → Hn → Option (List AV)
 | .slice _ _ _ _ _, _, .ar a => some [a, .bad]
 | .binOp .quo _ _ _ _, _, .dv a => some [a]
 | .binOp .rem _ _ _ _, _, .dv a => some [a]
 | .binOp .add _ _ _ _, _, .ar a => some [a]
 | .binOp .sub _ _ _ _, _, .ar a => some [a]
 | .call { callee := .builtin .max, .. }, _, .ar a => some [a]
 | .binOp _ _ p _ _, ev, .eq a => (match ev p with | .agg _ => some [a] | _ => none)
 | .load .., _, .ld a => some [a]
 | .index .., _, .ld a => some [a]
 | .indexAddr .., _, .chk els => some els
 | .slice t x lo hi mx, ev, .chk els => some (chkEls (.slice t x lo hi mx) ev els)
 | .lookup .., _, .chk els => some els
 | _, _, _ => none
def aop2 (C : Cx) (ev : Operand → AV) (H : Tr Ent) (key ver : Nat) (type : TypeId) (op : Op) (x : Hn) : Option (Prop × AV × Tr Ent) :=
 match op, x with
 | .call { callee := .builtin .append, .. }, .ap els => aopN C ev H key ver type els op
 | .mapUpdate .., .mu ks vs => aopN C ev H key ver type [.tup ks, .tup vs] op
 | .store .., .st e => aopN C ev H key ver type [e] op
 | .makeSlice .., .mk => aopM C ev H key ver op .mk
 | .call { callee := .builtin .copy, .. }, .cp => aopM C ev H key ver op .cp
 | .call { callee := .builtin .clear, .. }, .cp => aopM C ev H key ver op .cp
 | .call { callee := .builtin .append, .. }, .cp => aopM C ev H key ver op .cp
 | _, _ => none
def argsK (H : Tr Ent) (l : List AV) : Option (List AV) := bif l.all closed then some l else (frzL H l).map (·.1)
def evDWD (clK : CallK) (C : Cx) (fb nt : Nat) (T0 : Tr AV) (ver : Nat) (o : Oper) (i : DI) (ks : List Nat) (T : Tr AV) (H : Tr Ent) (hs : List Hn) (k : Tr AV → Tr Ent → List Hn → Dt R) : Dt R :=
  match hs with
  | [] => (match evDW clK C fb nt T0 ver o i ks T H with
    | none => .done none
    | some (T1, H1) => k T1 H1 [])
  | x :: hs' =>
    match i.cls, o.op, x with
    | 1, .call { callee := .value f, args, .. }, .sp as r => (match evA C T f with
      | .fn (.func g) first cap =>
        (match C.mode g with
        | .spec => (match argsK (hide H ks) (first ++ args.toList.map (evA C T) ++ cap) with
          | none => .done none
          | some as' => bif (first ++ args.toList.map (evA C T) ++ cap).all closed || pureA r then
            .need (as' = as ∧ C.spec g as' = some r) (match putA nt T o.dst r with
              | none => .done none
              | some T1 => k T1 H hs')
            else .done none)
        | _ => (match evDW clK C fb nt T0 ver o i ks T H with
          | none => .done none
          | some (T1, H1) => k T1 H1 (.sp as r :: hs')))
      | _ => .done none)
    | c, op, x => (match hintEls op (evA C T) x with
      | some els => bif (match c with | 0 => true | 1 => true | _ => false) && stays op then
          (match aopN C (evA C T) (match c with | 0 => .leaf | _ => hide H ks) (fb + o.dst.getD 0) ver o.type els op with
          | some (p, r, _) => .need p (match putA nt T o.dst r with
            | none => .done none
            | some T1 => k T1 H hs')
          | none => .done none)
        else .done none
      | none => (match c, aop2 C (evA C T) (match c with | 2 => hide H ks | _ => H) (fb + o.dst.getD 0) ver o.type op x with
       | 2, some (p, r, V) => (match tcKey fb T0 i.own with
         | none => .done none
         | some kk => bif ownOk (evA C T) (fb + o.dst.getD 0) kk op then (match V.get kk with
           | none => .done none
           | some e => .need p (match putA nt T o.dst r with
             | none => .done none
             | some T1 => k T1 (H.set kk e) hs')) else .done none)
       | 3, some (p, r, V) => .need p (match putA nt T o.dst r with
         | none => .done none
         | some T1 => k T1 V hs')
       | _, _ => (match op, x with
        | .indexAddr .., .skip => (match evDW clK C fb nt T0 ver o i ks T H with | none => .done none | some (T1, H1) => k T1 H1 hs')
        | .slice .., .skip => (match evDW clK C fb nt T0 ver o i ks T H with | none => .done none | some (T1, H1) => k T1 H1 hs')
        | .lookup .., .skip => (match evDW clK C fb nt T0 ver o i ks T H with | none => .done none | some (T1, H1) => k T1 H1 hs')
        | _, _ => (match evDW clK C fb nt T0 ver o i ks T H with
          | none => .done none
          | some (T1, H1) => k T1 H1 (x :: hs')))))
def evDOD (clK : CallK) (C : Cx) (fb nt : Nat) (ops : Array Oper) (T0 : Tr AV) (ver : Nat) (o : Oper) (i : DI) (T : Tr AV) (H : Tr Ent) (hs : List Hn) (k : Tr AV → Tr Ent → List Hn → Dt R) : Dt R :=
  match tcKeys fb T0 i.un with
  | none => .done none
  | some ks =>
    bif ownFree fb T0 i ks then
      wantD ops T o
        (fun T => match i.cls, o.op with
         | 0, .pick c a b => match evA C T c with
          | .v (.bool t) => match evA C T a, evA C T b with
            | .v (.bool x), .v (.bool y) => (match putA nt T o.dst (.v (.bool (bif t then x else y))) with | none => .done none | some T1 => k T1 H hs)
            | x, y => bif t then (match putA nt T o.dst x with | none => .done none | some T1 => k T1 H hs) else (match putA nt T o.dst y with | none => .done none | some T1 => k T1 H hs)
          | _ => .done none
         | _, _ => evDWD clK C fb nt T0 ver o i ks T H hs k)
        (fun T => match putA nt T o.dst (.v (.tuple #[])) with
          | none => .done none
          | some T1 => k T1 H hs)
    else .done none
def evDsD (clK : CallK) (C : Cx) (fb nt : Nat) (ops : Array Oper) (T0 : Tr AV) : Nat → List Oper → List DI → Tr AV → Tr Ent → List Hn → (Tr AV → Tr Ent → List Hn → Dt R) → Dt R
 | _, [], [], T, H, hs, k => k T H hs
 | v, o :: os, i :: is, T, H, hs, k => asD hs T (guardT ops o) fun T h0 => evDOD clK C fb nt ops T0 v o i T H h0 fun T1 H1 h1 => evDsD clK C fb nt ops T0 (v + 1) os is T1 H1 h1 k
 | _, _, _, _, _, _, _ => .done none
def iterD (f : St → List Hn → (Ex → St → List Hn → Dt R) → Dt R) : Nat → St → List Hn → (Ex → St → List Hn → Dt R) → Dt R
 | 0, _, _, _ => .done none
 | n + 1, st, hs, k => f st hs fun ex s1 h1 => match ex with
  | .nrm => iterD f n s1 h1 k
  | e => k e s1 h1
theorem Dt.fail {R : Type} {r : R} (h : (Dt.done none : Dt R).ok r) : False := by cases h
theorem setB_same {T : Tr AV} {d : Tmp} {b : Bool} (h : T.get d = some (.v (.bool b))) : setB T d b = T := Tr.put_same (d + 1) T d rfl h (enough d)
theorem setC_same {C : Cx} {T : Tr AV} {c : Operand} {b : Bool} (h : evA C T c = .v (.bool b)) : setC T c b = T := by
 cases c with
 | tmp t =>
  simp only [setC]
  refine setB_same ?_
  simp only [evA] at h
  split at h
  ·rename_i a ha; rw [ha, h]
  ·cases h
 | _ => rfl
theorem asD_ok {hs : List Hn} {T : Tr AV} {t : Option Tmp} {k : Tr AV → List Hn → Dt R} {r : R} (h : (asD hs T t k).ok r) : ∃ h', (k T h').ok r := by
 unfold asD at h
 split at h
 ·rename_i d b hs'
  split at h
  ·rename_i d'
   cases hb : Nat.beq d d' with
   | false => rw [hb] at h; exact ⟨_, h⟩
   | true =>
    rw [hb, cond_true] at h
    split at h
    ·rename_i x hx
     obtain ⟨rfl, h⟩ := h
     rw [setB_same hx] at h
     exact ⟨_, h⟩
    ·exact (Dt.fail h).elim
  ·exact ⟨_, h⟩
 ·exact ⟨_, h⟩
theorem fzD_ok {hs : List Hn} {st : St} {k : St → List Hn → Dt R} {r : R} (h : (fzD hs st k).ok r) : ∃ st' h', WkS st st' ∧ (k st' h').ok r := by
 unfold fzD at h
 split at h
 ·rename_i d hs'
  split at h
  ·rename_i kk q sz len hT
   split at h
   ·rename_i ver sz' es x hl
    cases hb : Nat.beq sz sz' with
    | false => rw [hb] at h; exact (Dt.fail h).elim
    | true =>
     rw [hb, cond_true] at h
     obtain ⟨⟨hc, hlen⟩, h⟩ := h
     have e := Nat.eq_of_beq_eq_true hb
     subst e; subst hlen
     have hv := (live_some hl).2
     simp only at hv
     subst hv
     refine ⟨_, _, ?_, h⟩
     have hT2 : st.T.set d (.sl kk ver sz 0 es.length) = st.T := Tr.put_same (d + 1) st.T d rfl hT (enough d)
     have := WkS.clo (T := st.T) (H := st.H) (nv := st.nv) (nf := st.nf) (d := d) hl hc
     rw [hT2] at this
     exact this
   ·exact (Dt.fail h).elim
  ·rename_i kk r hT
   split at h
   ·rename_i ver ks vs hl
    obtain ⟨⟨hck, hcv⟩, h⟩ := h
    have hv := (live_some hl).2
    simp only at hv
    subst hv
    refine ⟨_, _, ?_, h⟩
    have hT2 : st.T.set d (.mp kk ver) = st.T := Tr.put_same (d + 1) st.T d rfl hT (enough d)
    have := WkS.clm (T := st.T) (H := st.H) (nv := st.nv) (nf := st.nf) (d := d) hl hck hcv
    rw [hT2] at this
    exact this
   ·exact (Dt.fail h).elim
  ·exact (Dt.fail h).elim
 ·rename_i d hs'
  split at h
  ·rename_i kk q sz len hT
   split at h
   ·rename_i ver sz' es x hl
    cases hb : Nat.beq sz sz' with
    | false => rw [hb] at h; exact (Dt.fail h).elim
    | true =>
     rw [hb, cond_true] at h
     obtain ⟨⟨hc, hlen⟩, h⟩ := h
     have e := Nat.eq_of_beq_eq_true hb
     subst e
     have hv := (live_some hl).2
     simp only at hv
     subst hv
     refine ⟨_, _, ?_, h⟩
     have hT2 : st.T.set d (.sl kk ver sz 0 len) = st.T := Tr.put_same (d + 1) st.T d rfl hT (enough d)
     have := WkS.clp (T := st.T) (H := st.H) (nv := st.nv) (nf := st.nf) (d := d) hlen hl hc
     rw [hT2] at this
     exact this
   ·exact (Dt.fail h).elim
  ·exact (Dt.fail h).elim
 ·rename_i d j hs'
  split at h
  ·rename_i kb rb hT
   split at h
   ·rename_i verb cs hlb
    split at h
    ·rename_i kk q sz len hj
     split at h
     ·rename_i ver sz' es x hl
      cases hb : Nat.beq sz sz' with
      | false => rw [hb] at h; exact (Dt.fail h).elim
      | true =>
       rw [hb, cond_true] at h
       obtain ⟨⟨hc, hlen⟩, h⟩ := h
       have e := Nat.eq_of_beq_eq_true hb
       subst e; subst hlen
       have hv := (live_some hl).2
       simp only at hv
       subst hv
       have hvb := (live_some hlb).2
       simp only at hvb
       subst hvb
       exact ⟨_, _, WkS.clb hlb hj hl hc, h⟩
     ·exact (Dt.fail h).elim
    ·exact (Dt.fail h).elim
   ·exact (Dt.fail h).elim
  ·exact (Dt.fail h).elim
 ·exact ⟨_, _, WkS.refl, h⟩
theorem fpD_ok {hs : List Hn} {st : St} {k : St → List Hn → Dt R} {r : R} (h : (fpD hs st k).ok r) : ∃ st' h', WkS st st' ∧ (k st' h').ok r := by
 unfold fpD at h
 split at h
 ·exact fzD_ok h
 ·exact ⟨_, _, WkS.refl, h⟩
theorem wantD_ok {ops : Array Oper} {T : Tr AV} {o : Oper} {kt kf : Tr AV → Dt R} {r : R} (h : (wantD ops T o kt kf).ok r) : (wantA ops T o = some true ∧ (kt T).ok r) ∨ (wantA ops T o = some false ∧ (kf T).ok r) := by
 unfold wantD at h
 unfold wantA
 cases hg : o.guard with
 | none => rw [hg] at h; exact .inl ⟨rfl, h⟩
 | some gw =>
  obtain ⟨j, want⟩ := gw
  rw [hg] at h
  simp only at h ⊢
  cases hd : (ops[j]?).bind (·.dst) with
  | none => rw [hd] at h; exact .inr ⟨rfl, h⟩
  | some d =>
   rw [hd] at h
   simp only at h ⊢
   cases hT : T.get d with
   | none => rw [hT] at h; exact (Dt.fail h).elim
   | some a =>
    rw [hT] at h
    cases a with
    | v x =>
     cases x with
     | bool b =>
      simp only at h ⊢
      have hs := setB_same hT
      cases want <;> cases b <;> simp only [cond_true, cond_false] at h <;> rw [hs] at h <;> first | exact .inl ⟨rfl, h⟩ | exact .inr ⟨rfl, h⟩
     | _ => exact .inr ⟨rfl, h⟩
    | _ => exact (Dt.fail h).elim
theorem aop_pick {C : Cx} {ev : Operand → AV} {H : Tr Ent} {key ver : Nat} {type : TypeId} {c a b : Operand} {t : Bool} (h : ev c = .v (.bool t)) : aop C ev H key ver type (.pick c a b) = some (bif t then ev a else ev b, H) := by
 simp [aop, asB, h]
theorem beq_of {a b : Nat} (h : a = b) : Nat.beq a b = true := by subst h; exact Nat.beq_refl a
theorem aopN_ok {C : Cx} {ev : Operand → AV} {H H' : Tr Ent} {key ver : Nat} {type : TypeId} {els : List AV} {op : Op} {p : Prop} {a : AV} (h : aopN C ev H key ver type els op = some (p, a, H')) (hp : p) : aop C ev H key ver type op = some (a, H') := by
 unfold aopN at h
 split at h
 ·-- indexAddr
  rename_i t x i
  simp only [aop, aindexAddr]
  split at h
  ·cases h
  ·rename_i n hn
   rw [hn]
   simp only
   split at h
   ·rename_i sz es ex hx
    split at h
    ·rename_i te a' hte
     cases hb : Nat.beq te.size sz with
     | false => simp [hb] at h
     | true =>
      simp only [hb, cond_true, Option.map_eq_some_iff, Prod.mk.injEq] at h
      obtain ⟨cs, hcs, rfl, rfl, rfl⟩ := h
      simp [hx, hte, hb, hp, hcs]
    ·cases h
   ·rename_i k r sz lo len hx
    split at h
    ·rename_i te ver' fz' bl1 bl2 bl3 hte hl
     cases hb : Nat.beq te.size sz with
     | false => simp [hb] at h
     | true =>
      simp only [hb, cond_true, Option.some.injEq, Prod.mk.injEq] at h
      obtain ⟨rfl, rfl, rfl⟩ := h
      have hlt : Nat.blt n len = true := Nat.ble_eq_true_of_le hp
      simp [hx, hte, hl, hb, hlt]
    ·cases h
   ·rename_i k r off hx
    split at h
    ·rename_i len elem _ _ _ _ hty
     split at h
     ·rename_i ti hti
      simp only [Option.some.injEq, Prod.mk.injEq] at h
      obtain ⟨rfl, rfl, rfl⟩ := h
      have hlt : Nat.blt n len = true := Nat.ble_eq_true_of_le hp
      simp [hx, hty, hti, hlt]
     ·cases h
    ·cases h
   ·cases h
 ·-- load
  rename_i t x
  simp only [aop]
  split at h
  ·rename_i k r off x' hx
   split at h
   ·rename_i ver fz cs ti hl hty
    cases hag : ti.agg with
    | true => rw [hag] at h; cases h
    | false =>
     rw [hag, cond_false] at h
     simp only [Option.some.injEq, Prod.mk.injEq] at h
     obtain ⟨rfl, rfl, rfl⟩ := h
     simp [hx, aload, cellsAt, hl, partA, hty, hag, hp]
   ·cases h
  all_goals simp only [aload]
  ·rename_i k r sz i off x' hx
   split at h
   ·rename_i ver' fz' sz' es ex hl
    cases hb : Nat.beq sz sz' with
    | false => simp [hb] at h
    | true =>
     simp only [hb, cond_true] at h
     split at h
     ·rename_i cs hcs
      simp only [Option.map_eq_some_iff, Prod.mk.injEq] at h
      obtain ⟨v, hv, rfl, rfl, rfl⟩ := h
      simp [hx, cellsAt, hl, hb, hp, hcs, hv]
     ·cases h
   ·cases h
  ·cases h
 ·-- index
  rename_i t x i
  split at h
  ·simp only [Option.some.injEq, Prod.mk.injEq] at h
   obtain ⟨rfl, rfl, rfl⟩ := h
   simp only [aop, hp, Option.map_some]
  ·cases h
 ·-- convert
  rename_i t x i
  split at h
  ·simp only [Option.some.injEq, Prod.mk.injEq] at h
   obtain ⟨rfl, rfl, rfl⟩ := h
   simp only [aop, hp, Option.map_some]
  ·cases h
 ·-- slice
  rename_i t x lo hi
  simp only [aop, aslice]
  split at h
  ·rename_i s hx
   split at h
   ·simp only [Option.some.injEq, Prod.mk.injEq] at h
    obtain ⟨rfl, rfl, rfl⟩ := h
    simp only [aslice] at hp
    simp only [hx, Option.map_none, hp, Option.map_some]
   ·cases h
  ·rename_i sz es ex hx
   split at h
   ·rename_i te l hh hte hlo hhi
    cases hb : Nat.beq te.size sz with
    | false => simp [hb] at h
    | true =>
     have key : (l ≤ hh ∧ hh ≤ es.length) → aop C ev H key ver type (.slice t x lo hi none) = some (.rsl sz ((es.drop l).take (hh - l)) (ex && Nat.beq hh es.length), H) := fun hp => by
      have hle : Nat.ble l hh = true := Nat.ble_eq_true_of_le hp.1
      have hle2 : Nat.ble hh es.length = true := Nat.ble_eq_true_of_le hp.2
      have hab : abounds es.length (lo.map ev) (hi.map ev) (Option.map ev none) = some (l, hh, none) := by
       cases lo <;> cases hi <;> simp only [Option.some.injEq] at hlo hhi <;> (try subst hlo) <;> (try subst hhi) <;> simp [abounds, *]
      simp only [aop, aslice, hx, hte, hab, hb, hle2, Bool.and_self, cond_true, Option.map_some]
     simp only [hb, cond_true] at h
     split at h
     ·simp only [Option.some.injEq, Prod.mk.injEq] at h
      obtain ⟨rfl, rfl, rfl⟩ := h
      have k2 := key hp.1
      rw [hp.2] at k2
      simpa only [aop, aslice] using k2
     ·simp only [Option.some.injEq, Prod.mk.injEq] at h
      obtain ⟨rfl, rfl, rfl⟩ := h
      simpa only [aop, aslice] using key hp
   ·cases h
  ·rename_i k r sz lo0 len hx
   split at h
   ·split at h
    ·rename_i te l hh ver' fz' sz' es ex hte hlo hhi hl
     generalize hbb : (Nat.beq te.size sz && Nat.beq sz sz') = bb at h
     cases bb with
     | false => simp at h
     | true =>
      simp only [cond_true, Option.some.injEq, Prod.mk.injEq] at h
      obtain ⟨rfl, rfl, rfl⟩ := h
      obtain ⟨p1, p3⟩ := hp
      have hle : Nat.ble l hh = true := Nat.ble_eq_true_of_le p1
      have hab : abounds len (lo.map ev) (hi.map ev) (Option.map ev none) = some (l, hh, none) := by
       cases lo <;> cases hi <;> simp only [Option.some.injEq] at hlo hhi <;> (try subst hlo) <;> (try subst hhi) <;> simp [abounds, *]
      simp only [hx, hte, hab, hl, hbb, Nat.ble_eq_true_of_le p3, Bool.and_self, cond_true, Option.map_some]
    ·cases h
   ·cases h
  ·cases h
 ·-- a slice with three bounds
  rename_i t x lo hi mx
  simp only [aop, aslice]
  split at h
  ·rename_i k r sz lo0 len hx
   split at h
   ·split at h
    ·rename_i te l hh m ver' fz' sz' es ex hte hlo hhi hmx hl
     generalize hbb : (Nat.beq te.size sz && Nat.beq sz sz') = bb at h
     cases bb with
     | false => simp at h
     | true =>
      simp only [cond_true, Option.some.injEq, Prod.mk.injEq] at h
      obtain ⟨rfl, rfl, rfl⟩ := h
      obtain ⟨p1, p2, p3, p4⟩ := hp
      have hle : Nat.ble l hh = true := Nat.ble_eq_true_of_le p1
      have hle2 : Nat.ble hh m = true := Nat.ble_eq_true_of_le p2
      have hab : abounds len (some (ev lo)) (some (ev hi)) (some (ev mx)) = some (l, hh, some m) := by
       simp [abounds, hlo, hhi, hmx, hle, hle2]
      simp only [hx, hte, Option.map_some, hab, hl, hbb, Nat.ble_eq_true_of_le p3, p4, Bool.and_self, cond_true, cond_false]
    ·cases h
   ·cases h
  ·cases h
 ·-- store
  rename_i t x y
  simp only [aop, astore]
  split at h
  ·rename_i k r sz i off e hx
   split at h
   ·rename_i ti vs ver' sz' es ex cs hty hvs hl hcs
    generalize hbb : (Nat.beq vs.length ti.size && Nat.beq sz sz' && Nat.ble (off + vs.length) cs.length) = bb at h
    cases bb with
    | false => cases h
    | true =>
     simp only [Bool.and_eq_true] at hbb
     obtain ⟨⟨b1, b2⟩, b3⟩ := hbb
     simp only [cond_true, Option.map_eq_some_iff, Prod.mk.injEq] at h
     obtain ⟨e', he', rfl, rfl, rfl⟩ := h
     rw [hty, hvs]
     simp only [b1, Bool.not_true, cond_false, hx, hl, b2, hp, hcs, b3, cond_true, he', Option.map_some]
   ·cases h
  ·cases h
 ·-- mapUpdate
  rename_i t m i v
  simp only [aop]
  split at h
  ·rename_i k r ks' vs' hm
   split at h
   ·rename_i ver' ks vs hl
    simp only [Option.some.injEq, Prod.mk.injEq] at h
    obtain ⟨rfl, rfl, rfl⟩ := h
    rw [hm, mapUpd_ok hl hp]; rfl
   ·cases h
  ·cases h
 ·-- binOp
  rename_i o t x y _
  split at h
  ·simp only [Option.some.injEq, Prod.mk.injEq] at h
   obtain ⟨rfl, rfl, rfl⟩ := h
   simp only [aop, hp, Option.map_some]
  ·cases h
 ·-- lookup
  rename_i t x i ok
  simp only [aop]
  split at h
  ·rename_i ks vs a' hx
   simp only [Option.some.injEq, Prod.mk.injEq] at h
   obtain ⟨rfl, rfl, rfl⟩ := h
   have : alookup C H t (ev x) (ev i) ok = some a' := by rw [hx]; exact hp
   rw [this]; rfl
  ·rename_i k r a' hx
   split at h
   ·rename_i ver' fz' ks vs hl
    simp only [Option.some.injEq, Prod.mk.injEq] at h
    obtain ⟨rfl, rfl, rfl⟩ := h
    have : alookup C H t (ev x) (ev i) ok = some a' := by
     rw [hx]
     have hm : mapOf H (.mp k r) = mapOf .leaf (.rmp ks vs) := by simp [mapOf, hl]
     unfold alookup at hp ⊢
     rw [hm]; exact hp
    rw [this]; rfl
   ·cases h
  ·cases h
 ·-- append
  rename_i args ats
  simp only [aop]
  split at h
  ·rename_i s x st xt hargs hats
   rw [hargs, hats]
   simp only [abuiltin, aappend]
   split at h
   ·rename_i dsc sz ag by_ z xd x1 xs hte hxd hxs
    rw [hte, hxd, hxs]
    simp only
    cases hq : notSeq xd with
    | true => simp [hq] at h
    | false =>
     simp only [hq, cond_false] at h ⊢
     split at h
     ·simp only [Option.some.injEq, Prod.mk.injEq] at h
      obtain ⟨rfl, rfl, rfl⟩ := h
      obtain ⟨p1, p2, p3, p4, p5⟩ := hp
      have c1 := Nat.ble_eq_true_of_le p3
      have c2 := Nat.ble_eq_true_of_le p4
      have c3 : Nat.beq by_ 0 = false := by cases hb : Nat.beq by_ 0 with | false => rfl | true => exact absurd (Nat.eq_of_beq_eq_true hb) p5
      simp only [p1, beq_of p2, Bool.and_self, Bool.not_true, cond_false, c1, c2, c3, Bool.not_false, cond_true]
     ·rename_i sz' es
      cases hb : Nat.beq sz sz' with
      | false => simp [hb] at h
      | true =>
       simp only [hb, cond_true, Option.some.injEq, Prod.mk.injEq] at h
       obtain ⟨rfl, rfl, rfl⟩ := h
       obtain ⟨p1, p2, p3, p4, p5⟩ := hp
       have c1 := Nat.ble_eq_true_of_le p3
       have c2 := Nat.ble_eq_true_of_le p4
       have c3 : Nat.beq by_ 0 = false := by cases hb : Nat.beq by_ 0 with | false => rfl | true => exact absurd (Nat.eq_of_beq_eq_true hb) p5
       simp only [p1, beq_of p2, Bool.and_self, Bool.not_true, cond_false, c1, c2, c3, Bool.not_false, cond_true, hb]
     ·rename_i k r sz' len
      split at h
      ·rename_i ver' sz'' es hl
       generalize hbb : (Nat.beq sz sz' && Nat.beq sz sz'') = bb at h
       cases bb with
       | false => simp at h
       | true =>
        simp only [cond_true, Option.some.injEq, Prod.mk.injEq] at h
        obtain ⟨rfl, rfl, rfl⟩ := h
        obtain ⟨p0, p1, p2, p3, p4, p5⟩ := hp
        have c1 := Nat.ble_eq_true_of_le p3
        have c2 := Nat.ble_eq_true_of_le p4
        have c3 : Nat.beq by_ 0 = false := by cases hb : Nat.beq by_ 0 with | false => rfl | true => exact absurd (Nat.eq_of_beq_eq_true hb) p5
        have c4 : Nat.beq (0 + len) es.length = true := beq_of (by omega)
        simp only [p1, beq_of p2, Bool.and_self, Bool.not_true, cond_false, c1, c2, c3, Bool.not_false, cond_true, hl, hbb, c4, Nat.beq_refl]
      ·cases h
     ·cases h
   ·cases h
  ·cases h
 ·-- max
  simp only [aop]
  split at h
  ·rename_i vs hvs
   simp only [Option.some.injEq, Prod.mk.injEq] at h
   obtain ⟨rfl, rfl, rfl⟩ := h
   simp [abuiltin, hvs, hp]
  ·cases h
 ·cases h
theorem aop2_ok {C : Cx} {ev : Operand → AV} {H H' : Tr Ent} {key ver : Nat} {type : TypeId} {op : Op} {x : Hn} {p : Prop} {a : AV} (h : aop2 C ev H key ver type op x = some (p, a, H')) (hp : p) : aop C ev H key ver type op = some (a, H') := by
 unfold aop2 at h
 split at h
 ·exact aopN_ok h hp
 ·exact aopN_ok h hp
 ·exact aopN_ok h hp
 ·exact aopM_ok h hp
 ·exact aopM_ok h hp
 ·exact aopM_ok h hp
 ·exact aopM_ok h hp
 ·cases h
theorem opD_ok {C : Cx} {ev : Operand → AV} {H : Tr Ent} {key ver : Nat} {type : TypeId} {op : Op} {hs : List Hn} {k : AV → Tr Ent → List Hn → Dt R} {r : R} (h : (opD C ev H key ver type op hs k).ok r) :
  ∃ a H' hs', aop C ev H key ver type op = some (a, H') ∧ (k a H' hs').ok r := by
 unfold opD at h
 split at h
 ·rename_i c a b
  split at h
  ·rename_i t ht
   rw [aop_pick ht]
   split at h
   ·rename_i x y hx hy
    refine ⟨bif t then ev a else ev b, H, hs, rfl, ?_⟩
    rw [hx, hy]; cases t <;> exact h
   ·cases t
    ·exact ⟨_, _, _, rfl, h⟩
    ·exact ⟨_, _, _, rfl, h⟩
  ·exact (Dt.fail h).elim
 ·rename_i it
  split at h
  ·rename_i kk q hit
   split at h
   ·rename_i ver' s pos hl
    simp only [aop, hit, hl]
    cases hb : Nat.blt pos s.size with
    | true => simp only [hb, cond_true] at h ⊢; exact ⟨_, _, _, rfl, h⟩
    | false => simp only [hb, cond_false] at h ⊢; exact ⟨_, _, _, rfl, h⟩
   ·exact (Dt.fail h).elim
  ·exact (Dt.fail h).elim
 ·split at h
  ·split at h
   ·exact (Dt.fail h).elim
   ·rename_i r' H' ha; exact ⟨_, _, _, ha, h⟩
  ·split at h
   ·rename_i p a H' ha
    exact ⟨_, _, _, aopM_ok ha h.1, h.2⟩
   ·split at h
    ·exact (Dt.fail h).elim
    ·rename_i r' H' ha; exact ⟨_, _, _, ha, h⟩
  ·split at h
   ·rename_i p a H' ha
    exact ⟨_, _, _, aopM_ok ha h.1, h.2⟩
   ·split at h
    ·exact (Dt.fail h).elim
    ·rename_i r' H' ha; exact ⟨_, _, _, ha, h⟩
  ·split at h
   ·rename_i p a H' ha
    exact ⟨_, _, _, aopM_ok ha h.1, h.2⟩
   ·split at h
    ·exact (Dt.fail h).elim
    ·rename_i r' H' ha; exact ⟨_, _, _, ha, h⟩
  ·rename_i x hs' _ _ _
   generalize (hard op || _) = hh at h
   cases hh with
   | true =>
    simp only [cond_true] at h
    split at h
    ·split at h
     ·rename_i p a H' ha
      exact ⟨_, _, _, aopN_ok ha h.1, h.2⟩
     ·exact (Dt.fail h).elim
    ·split at h
     ·rename_i p a H' ha
      exact ⟨_, _, _, aopN_ok ha h.1, h.2⟩
     ·exact (Dt.fail h).elim
    ·split at h
     ·rename_i p a H' ha
      exact ⟨_, _, _, aopN_ok ha h.1, h.2⟩
     ·exact (Dt.fail h).elim
    ·split at h
     ·rename_i p a H' ha
      exact ⟨_, _, _, aopN_ok ha h.1, h.2⟩
     ·exact (Dt.fail h).elim
    ·split at h
     ·rename_i p a H' ha
      exact ⟨_, _, _, aopN_ok ha h.1, h.2⟩
     ·exact (Dt.fail h).elim
    ·split at h
     ·rename_i p a H' ha
      exact ⟨_, _, _, aopN_ok ha h.1, h.2⟩
     ·exact (Dt.fail h).elim
    ·split at h
     ·rename_i p a H' ha
      exact ⟨_, _, _, aopN_ok ha h.1, h.2⟩
     ·exact (Dt.fail h).elim
    ·split at h
     ·exact (Dt.fail h).elim
     ·rename_i r' H' ha; exact ⟨_, _, _, ha, h⟩
    ·exact (Dt.fail h).elim
   | false =>
    simp only [cond_false] at h
    split at h
    ·exact (Dt.fail h).elim
    ·rename_i r' H' ha; exact ⟨_, _, _, ha, h⟩
theorem evOD_ok {cl : CallF} {clD : CallD R} {C : Cx} {fb nt : Nat} {ops : Array Oper} {o : Oper} {st : St} {hs : List Hn} {k : St → List Hn → Dt R} {r : R} (h : (evOD cl clD C fb nt ops o st hs k).ok r) :
    (∃ s1 s2 h1, evO cl C fb nt ops o st = some s1 ∧ WkS s1 s2 ∧ (k s2 h1).ok r) ∨
    (∃ f args ats, wantA ops st.T o = some true ∧ o.op = .call { callee := .value f, args := args, argTypes := ats } ∧ (clD (evA C st.T f) (args.toList.map (evA C st.T)) st hs fun r s1 h1 => match putA nt st.T o.dst r with
            | none => .done none
            | some T => k { s1 with T := T } h1).ok r) := by
  unfold evOD at h
  unfold evO
  rcases wantD_ok h with ⟨hw, h⟩ | ⟨hw, h⟩
  · rw [hw]
    simp only
    split at h
    · rename_i f args ats ho
      split at h
      · refine .inl ?_
        rw [ho]
        simp only
        obtain ⟨h1, h2⟩ := h
        rw [h1]
        split at h2
        · exact (Dt.fail h2).elim
        · rename_i T hT; exact ⟨_, _, _, by simp only [hT, Option.map_some], WkS.refl, h2⟩
      · exact .inr ⟨f, args, ats, trivial, ho, h⟩
    · rename_i hop
      refine .inl ?_
      split at h
      · rename_i hs' d hd _
        split at h
        · rename_i p a H ha
          cases hb : Nat.blt d nt with
          | false => rw [hb] at h; exact (Dt.fail h).elim
          | true =>
            rw [hb] at h
            obtain ⟨hp, h⟩ := h
            obtain ⟨a1, H1, h1, h2⟩ := aopC_ok (ver := st.nv) (type := o.type) ha hp
            refine ⟨{ st with T := st.T.set d a1, H := H1, nv := st.nv + 1 }, _, _, ?_, h2 st.T d (st.nv + 1) st.nf, h⟩
            split
            · rename_i f args ats ho; exact absurd ho (hop _ _ _)
            · rw [hd]
              simp only [Option.getD_some, h1, putA, hb, cond_true, Option.map_some]
        · split at h
          · exact (Dt.fail h).elim
          · rename_i r1 H1 ha
            split at h
            · exact (Dt.fail h).elim
            · rename_i T hT
              refine ⟨_, _, _, ?_, WkS.refl, h⟩
              split
              · rename_i f args ats ho; exact absurd ho (hop _ _ _)
              · rw [hd]
                simp only [Option.getD_some, ha, hT, Option.map_some]
      · obtain ⟨a, H', hs', ha, h⟩ := opD_ok h
        split at h
        · exact (Dt.fail h).elim
        · rename_i T hT
          refine ⟨_, _, _, ?_, WkS.refl, h⟩
          split
          · rename_i f args ats ho; exact absurd ho (hop _ _ _)
          · rw [ha]; simp only [hT, Option.map_some]
  · refine .inl ?_
    rw [hw]
    simp only
    split at h
    · exact (Dt.fail h).elim
    · rename_i T hT; exact ⟨_, _, _, by simp [hT], WkS.refl, h⟩
def KnowsSp (C : Cx) (clK : CallK) : Prop := ∀ (g : FuncId) (first cap args : List AV) (H : Tr Ent) (as : List AV) (r : AV), C.mode g = .spec → argsK H (first ++ args ++ cap) = some as → ((first ++ args ++ cap).all closed || pureA r) = true → C.spec g as = some r → clK (.fn (.func g) first cap) args H = some r
theorem evDWD_ok {clK : CallK} {C : Cx} (hK : KnowsSp C clK) {fb nt : Nat} {T0 : Tr AV} {ver : Nat} {o : Oper} {i : DI} {ks : List Nat} {T : Tr AV} {H : Tr Ent} {hs : List Hn} {k : Tr AV → Tr Ent → List Hn → Dt R} {r : R} (h : (evDWD clK C fb nt T0 ver o i ks T H hs k).ok r) :
  ∃ T1 H1 h1, evDW clK C fb nt T0 ver o i ks T H = some (T1, H1) ∧ (k T1 H1 h1).ok r := by
 have dflt : ∀ {h1 : List Hn}, (match evDW clK C fb nt T0 ver o i ks T H with | none => (.done none : Dt R) | some (T1, H1) => k T1 H1 h1).ok r → ∃ T1 H1 h1, evDW clK C fb nt T0 ver o i ks T H = some (T1, H1) ∧ (k T1 H1 h1).ok r := by
  intro h1 h
  split at h
  ·exact (Dt.fail h).elim
  ·rename_i T1 H1 he; exact ⟨T1, H1, h1, he, h⟩
 unfold evDWD at h
 split at h
 ·exact dflt h
 ·rename_i x hs'
  split at h
  ·rename_i f args ats as r' hcls hop
   split at h
   ·rename_i g first cap hev
    split at h
    ·rename_i hm
     split at h
     ·exact (Dt.fail h).elim
     ·rename_i as' has
      generalize hc : ((first ++ args.toList.map (evA C T) ++ cap).all closed || pureA r') = c at h
      cases c with
      | false => exact (Dt.fail h).elim
      | true =>
       obtain ⟨⟨_, hsp⟩, h⟩ := h
       have hcl := hK g first cap (args.toList.map (evA C T)) (hide H ks) as' r' hm has hc hsp
       split at h
       ·exact (Dt.fail h).elim
       ·rename_i T1 hT
        refine ⟨T1, H, hs', ?_, h⟩
        unfold evDW
        rw [hcls, hop]
        simp only [hev, hcl, hT, Option.map_some]
    ·exact dflt h
   ·exact (Dt.fail h).elim
  ·rename_i c op x' _ _
   split at h
   ·rename_i els hels
    generalize hst : ((match i.cls with | 0 => true | 1 => true | _ => false) && stays o.op) = b at h
    cases b with
    | false => exact (Dt.fail h).elim
    | true =>
     simp only [cond_true] at h
     simp only [Bool.and_eq_true] at hst
     obtain ⟨hc, hst⟩ := hst
     split at h
     ·rename_i p a H' ha
      obtain ⟨hp, h⟩ := h
      have haop := aopN_ok ha hp
      split at h
      ·exact (Dt.fail h).elim
      ·rename_i T1 hT
       refine ⟨T1, H, hs', ?_, h⟩
       unfold evDW
       split
       ·rename_i hcls
        rw [hcls] at haop
        simp only at haop
        simp only [hst, cond_true]
        rw [haop]
        simp only [hT, Option.map_some]
       ·rename_i hcls
        rw [hcls] at haop
        simp only at haop
        have hnc : ∀ f args ats, o.op ≠ .call { callee := .value f, args := args, argTypes := ats } := fun f args ats e => by rw [e] at hst; simp [stays] at hst
        have hnb : ∀ t l p, o.op ≠ .buildSlice t l p := fun t l p e => by rw [e] at hst; simp [stays] at hst
        split
        ·rename_i f args ats e; exact absurd e (hnc _ _ _)
        ·rename_i t l p e; exact absurd e (hnb _ _ _)
        ·simp only [hst, cond_true]
         rw [haop]
         simp only [hT, Option.map_some]
       ·rename_i hcls; rw [hcls] at hc; cases hc
       ·rename_i hcls; rw [hcls] at hc; cases hc
       ·rename_i n0 n1 n2 n3
        split at hc
        ·rename_i e; exact absurd e n0
        ·rename_i e; exact absurd e n1
        ·cases hc
     ·exact (Dt.fail h).elim
   ·split at h
    ·rename_i p r1 V hcls ha2
     split at h
     ·exact (Dt.fail h).elim
     ·rename_i kk hkk
      cases hown : ownOk (evA C T) (fb + o.dst.getD 0) kk o.op with
      | false => rw [hown] at h; exact (Dt.fail h).elim
      | true =>
       rw [hown, cond_true] at h
       split at h
       ·exact (Dt.fail h).elim
       ·rename_i e he
        obtain ⟨hp, h⟩ := h
        have haop := aop2_ok ha2 hp
        simp only [hcls] at haop
        split at h
        ·exact (Dt.fail h).elim
        ·rename_i T1 hT
         refine ⟨T1, _, hs', ?_, h⟩
         unfold evDW
         rw [hcls]
         simp only [hkk, hown, cond_true, haop, he, hT, Option.map_some]
    ·rename_i p r1 V hcls ha2
     obtain ⟨hp, h⟩ := h
     have haop := aop2_ok ha2 hp
     simp only [hcls] at haop
     split at h
     ·exact (Dt.fail h).elim
     ·rename_i T1 hT
      refine ⟨T1, _, hs', ?_, h⟩
      unfold evDW
      rw [hcls]
      simp only [haop, hT, Option.map_some]
    ·split at h
     ·exact dflt h
     ·exact dflt h
     ·exact dflt h
     ·exact dflt h
theorem evDOD_ok {clK : CallK} {C : Cx} (hK : KnowsSp C clK) {fb nt : Nat} {ops : Array Oper} {T0 : Tr AV} {ver : Nat} {o : Oper} {i : DI} {T : Tr AV} {H : Tr Ent} {hs : List Hn} {k : Tr AV → Tr Ent → List Hn → Dt R} {r : R} (h : (evDOD clK C fb nt ops T0 ver o i T H hs k).ok r) :
  ∃ T1 H1 h1, evDO clK C fb nt ops T0 ver o i T H = some (T1, H1) ∧ (k T1 H1 h1).ok r := by
 unfold evDOD at h
 unfold evDO
 split at h
 ·exact (Dt.fail h).elim
 ·rename_i ks hks
  rw [hks]
  simp only
  cases hf : ownFree fb T0 i ks with
  | false => simp only [hf, cond_false] at h; exact (Dt.fail h).elim
  | true =>
   simp only [hf, cond_true] at h ⊢
   rcases wantD_ok h with ⟨hw, h⟩ | ⟨hw, h⟩
   ·rw [hw]
    simp only
    split at h
    ·rename_i c a b hc ho
     have hstay : stays o.op = true := by rw [ho]; rfl
     unfold evDW
     rw [hc]
     simp only [hstay, cond_true]
     rw [ho]
     split at h
     ·rename_i t ht
      rw [aop_pick ht]
      have put : ∀ {x : AV}, (match putA nt T o.dst x with | none => Dt.done none | some T1 => k T1 H hs).ok r → ∃ T1 H1 h1, (putA nt T o.dst x).map (·, H) = some (T1, H1) ∧ (k T1 H1 h1).ok r := by
       intro x hx
       split at hx
       ·exact (Dt.fail hx).elim
       ·rename_i T1 hT; exact ⟨T1, H, hs, by simp [hT], hx⟩
      split at h
      ·rename_i x y hx hy
       rw [hx, hy]
       have : (bif t then (AV.v (.bool x)) else AV.v (.bool y)) = .v (.bool (bif t then x else y)) := by cases t <;> rfl
       simp only [this]
       exact put h
      ·cases t
       ·exact put h
       ·exact put h
     ·exact (Dt.fail h).elim
    ·obtain ⟨T1, H1, h1, he, h⟩ := evDWD_ok hK h; exact ⟨T1, H1, h1, he, h⟩
   ·rw [hw]
    simp only
    split at h
    ·exact (Dt.fail h).elim
    ·rename_i T1 hT; exact ⟨T1, H, hs, by simp [hT], h⟩
theorem evDsD_ok {clK : CallK} {C : Cx} (hK : KnowsSp C clK) {fb nt : Nat} {ops : Array Oper} {T0 : Tr AV} {k : Tr AV → Tr Ent → List Hn → Dt R} {r : R} : ∀ (os : List Oper) (is : List DI) (v : Nat) (T : Tr AV) (H : Tr Ent) (hs : List Hn),
  (evDsD clK C fb nt ops T0 v os is T H hs k).ok r → ∃ T1 H1 h1, evDs clK C fb nt ops T0 v os is T H = some (T1, H1) ∧ (k T1 H1 h1).ok r
 | [], [], v, T, H, hs, h => ⟨T, H, hs, rfl, h⟩
 | [], _ :: _, _, _, _, _, h => (Dt.fail h).elim
 | _ :: _, [], _, _, _, _, h => (Dt.fail h).elim
 | o :: os, i :: is, v, T, H, hs, h => by
  simp only [evDsD] at h
  obtain ⟨_, h⟩ := asD_ok h
  obtain ⟨T1, H1, h1, he1, h⟩ := evDOD_ok hK h
  obtain ⟨T2, H2, h2, he2, h⟩ := evDsD_ok hK os is (v + 1) T1 H1 h1 h
  exact ⟨T2, H2, h2, by simp only [evDs, he1, he2], h⟩
end
end Go.Vm

namespace Go.Vm
open Go.RowKit (Below)
def renA (vm : Nat → Option Nat) : AV → AV
 | .ptr k r off => match vm r with | some j => .ptr k j off | none => .bad
 | .eptr k r sz i off => match vm r with | some j => .eptr k j sz i off | none => .bad
 | .sl k r sz lo len => match vm r with | some j => .sl k j sz lo len | none => .bad
 | .mp k r => match vm r with | some j => .mp k j | none => .bad
 | .itr k r => match vm r with | some j => .itr k j | none => .bad
 | .yld k r => match vm r with | some j => .yld k j | none => .bad
 | .v x => .v x
 | .rptr cs => .rptr cs
 | .rsl sz es ex => .rsl sz es ex
 | .rmp ks vs => .rmp ks vs
 | .agg cs => .agg (renL vm cs)
 | .tup cs => .tup (renL vm cs)
 | .ifc t x => .ifc t (renA vm x)
 | .fn f as bs => .fn f (renL vm as) (renL vm bs)
 | .bad => .bad
 where renL (vm : Nat → Option Nat) : List AV → List AV
 | [] => []
 | a :: as => renA vm a :: renL vm as
mutual
theorem renA_rep' {M M' : Mem} {vm : Nat → Option Nat} (hv : ∀ r j, vm r = some j → ∀ z, M.mu r = some z → M'.mu j = some z) (hi : M'.imm = M.imm) (hw : M'.w = M.w) : ∀ (a : AV) (y : Value), Rep M a y → Rep M' (renA vm a) y
 | .bad, y, h => by unfold renA Rep; trivial
 | .v x, y, h => by unfold renA; unfold Rep at h ⊢; exact h
 | .agg cs, y, h => by unfold renA; unfold Rep at h ⊢; obtain ⟨l, e, h⟩ := h; exact ⟨l, e, renL_rep' hv hi hw cs l h⟩
 | .tup cs, y, h => by unfold renA; unfold Rep at h ⊢; obtain ⟨l, e, h⟩ := h; exact ⟨l, e, renL_rep' hv hi hw cs l h⟩
 | .ptr k r off, y, h => by
  unfold renA
  split
  ·rename_i j hj; unfold Rep at h ⊢; obtain ⟨b, ct, h1, h2⟩ := h; exact ⟨b, ct, hv r j hj _ h1, h2⟩
  ·unfold Rep; trivial
 | .eptr k r sz i off, y, h => by
  unfold renA
  split
  ·rename_i j hj; unfold Rep at h ⊢; obtain ⟨b, ct, h1, h2⟩ := h; exact ⟨b, ct, hv r j hj _ h1, h2⟩
  ·unfold Rep; trivial
 | .sl k r sz lo len, y, h => by
  unfold renA
  split
  ·rename_i j hj; unfold Rep at h ⊢; obtain ⟨b, ct, o, h1, h2⟩ := h; exact ⟨b, ct, o, hv r j hj _ h1, h2⟩
  ·unfold Rep; trivial
 | .mp k r, y, h => by
  unfold renA
  split
  ·rename_i j hj; unfold Rep at h ⊢; obtain ⟨b, ct, h1, h2⟩ := h; exact ⟨b, ct, hv r j hj _ h1, h2⟩
  ·unfold Rep; trivial
 | .itr k r, y, h => by
  unfold renA
  split
  ·rename_i j hj; unfold Rep at h ⊢; obtain ⟨b, ct, h1, h2⟩ := h; exact ⟨b, ct, hv r j hj _ h1, h2⟩
  ·unfold Rep; trivial
 | .yld k r, y, h => by
  unfold renA
  split
  ·rename_i j hj; unfold Rep at h ⊢; obtain ⟨b, ct, h1, h2⟩ := h; exact ⟨b, ct, hv r j hj _ h1, h2⟩
  ·unfold Rep; trivial
 | .rptr cs, y, h => by
  unfold renA; unfold Rep at h ⊢
  obtain ⟨b, o, l, e, h1, h2⟩ := h
  refine ⟨b, o, l, e, bareL hi hw h1, fun i x hx => ?_⟩
  obtain ⟨h3, h4⟩ := h2 i x hx
  exact ⟨hi ▸ h3, hw ▸ h4⟩
 | .rsl sz es ex, y, h => by
  unfold renA; unfold Rep at h ⊢
  obtain ⟨ao, cap, ys, e, hc, h1, hs, h2, hx⟩ := h
  refine ⟨ao, cap, ys, e, hc, bareL hi hw h1, hs, ?_, hx⟩
  rcases h2 with ⟨b, o, e2, h2⟩ | h2
  ·refine .inl ⟨b, o, e2, fun i x hx => ?_⟩
   obtain ⟨h3, h4⟩ := h2 i x hx
   exact ⟨hi ▸ h3, hw ▸ h4⟩
  ·exact .inr h2
 | .rmp ks vs, y, h => by
  unfold renA; unfold Rep at h ⊢
  obtain ⟨b, es, c, e, h1, h2, h3, h4⟩ := h
  exact ⟨b, es, c, e, hi ▸ h1, hw ▸ h2, bareL hi hw h3, bareL hi hw h4⟩
 | .fn f as bs, y, h => by
  unfold renA; unfold Rep at h ⊢
  obtain ⟨l, c, e, h1, h2⟩ := h
  exact ⟨l, c, e, renL_rep' hv hi hw as l h1, renL_rep' hv hi hw bs c h2⟩
 | .ifc t x, y, h => by unfold renA; unfold Rep at h ⊢; obtain ⟨z, e, h⟩ := h; exact ⟨z, e, renA_rep' hv hi hw x z h⟩
theorem renL_rep' {M M' : Mem} {vm : Nat → Option Nat} (hv : ∀ r j, vm r = some j → ∀ z, M.mu r = some z → M'.mu j = some z) (hi : M'.imm = M.imm) (hw : M'.w = M.w) : ∀ (as : List AV) (ys : List Value), RepL M as ys → RepL M' (renA.renL vm as) ys
 | [], ys, h => by unfold renA.renL; rw [RepL.nil_iff] at h ⊢; exact h
 | a :: as, ys, h => by
  unfold renA.renL
  rw [RepL.cons_iff] at h ⊢
  obtain ⟨x, xs, e, h1, h2⟩ := h
  exact ⟨x, xs, e, renA_rep' hv hi hw a x h1, renL_rep' hv hi hw as xs h2⟩
theorem bareL {M M' : Mem} (hi : M'.imm = M.imm) (hw : M'.w = M.w) {as : List AV} {ys : List Value} (h : RepL M.bare as ys) : RepL M'.bare as ys := by
 have hl : M.bare.lw M'.bare := ⟨fun _ _ x => (by cases x), fun b o hb ho _ => ⟨show M'.imm b from hi ▸ hb, by show M'.w.heap[b]? = some o; rw [hw]; exact ho⟩⟩
 exact h.monoW hl
end
theorem renA_rep {M M' : Mem} {vm : Nat → Option Nat} (hv : ∀ r j, vm r = some j → M'.mu j = M.mu r) (hi : M'.imm = M.imm) (hw : M'.w = M.w) (a : AV) (y : Value) (h : Rep M a y) : Rep M' (renA vm a) y := renA_rep' (fun r j hj _z hz => (hv r j hj).trans hz) hi hw a y h
theorem renL_rep {M M' : Mem} {vm : Nat → Option Nat} (hv : ∀ r j, vm r = some j → M'.mu j = M.mu r) (hi : M'.imm = M.imm) (hw : M'.w = M.w) (as : List AV) (ys : List Value) (h : RepL M as ys) : RepL M' (renA.renL vm as) ys := renL_rep' (fun r j hj _z hz => (hv r j hj).trans hz) hi hw as ys h
def canonT (vm : Nat → Option Nat) (T : Tr AV) : List Tmp → List AV
 | [] => []
 | t :: ts => (match T.get t with | some a => renA vm a | none => .bad) :: canonT vm T ts
def mkT : List Tmp → List AV → Tr AV → Tr AV
 | t :: ts, v :: vs, T => mkT ts vs (T.set t v)
 | _, _, T => T
def allLt (n : Nat) : List Nat → Bool
 | [] => true
 | x :: xs => Nat.blt x n && allLt n xs
def canonE (keep : FuncId → List Tmp) (vm : Nat → Option Nat) (e : Ent) : Option (Bool × Blk) :=
 match e.blk with
 | .box cs => some (e.fz, .box (renA.renL vm cs))
 | .arr sz es ex => some (e.fz, .arr sz es ex)
 | .map ks vs => some (e.fz, .map ks vs)
 | .siter s p => some (e.fz, .siter s p)
 | .loop fid fb nt T ps asg bd pend => bif allLt nt (keep fid) then some (e.fz, .loop fid fb nt (mkT (keep fid) (canonT vm T (keep fid)) .leaf) ps asg bd pend) else none
def canonH (keep : FuncId → List Tmp) (vm : Nat → Option Nat) (H : Tr Ent) : List Nat → Option (List (Bool × Blk))
 | [] => some []
 | k :: ks => match H.get k with
  | none => none
  | some e => match canonE keep vm e, canonH keep vm H ks with
   | some p, some ps => some (p :: ps)
   | _, _ => none
def versOf (H : Tr Ent) : List Nat → List Nat
 | [] => []
 | k :: ks => (match H.get k with | some e => e.ver | none => 0) :: versOf H ks
def idxN (r : Nat) : List Nat → Nat → Option Nat
 | [], _ => none
 | x :: xs, i => bif Nat.beq x r then some i else idxN r xs (i + 1)
def nodupN : List Nat → Bool
 | [] => true
 | x :: xs => !memN x xs && nodupN xs
def perOk : Nat → Nat → List Nat → Bool
 | 0, _, _ => true
 | p + 1, i, v :: vs => Nat.beq v i && perOk p (i + 1) vs
 | _ + 1, _, [] => false
def canon (keep : FuncId → List Tmp) (p nt : Nat) (ts : List Tmp) (ks : List Nat) (st : St) : Option (List AV × List (Bool × Blk)) :=
 bif nodupN ks && allLt nt ts && perOk p 0 (versOf st.H ks) then
  match canonH keep (fun r => idxN r (versOf st.H ks) 0) st.H ks with
  | none => none
  | some es => some (canonT (fun r => idxN r (versOf st.H ks) 0) st.T ts, es)
 else none
def mkH : List Nat → List (Bool × Blk) → Nat → Tr Ent → Tr Ent
 | k :: ks, e :: es, j, H => mkH ks es (j + 1) (H.set k { ver := j, fz := e.1, blk := e.2 })
 | _, _, _, H => H
def mkSt (ts : List Tmp) (ks : List Nat) (nf : Nat) (vs : List AV) (es : List (Bool × Blk)) : St := { T := mkT ts vs .leaf, H := mkH ks es 0 .leaf, nv := ks.length, nf := nf }
def EnC : List (Bool × Blk) → Prop
 | [] => True
 | (false, .arr _ es _) :: r => ClosedL es ∧ EnC r
 | (false, .map ks vs) :: r => (ClosedL ks ∧ ClosedL vs) ∧ EnC r
 | _ :: r => EnC r
theorem mkT_get : ∀ (ts : List Tmp) (vs : List AV) (T : Tr AV) {i : Nat} {x : AV}, (mkT ts vs T).get i = some x → (∃ j : Nat, ts[j]? = some i ∧ vs[j]? = some x) ∨ T.get i = some x
 | t :: ts, v :: vs, T, i, x, h => by
  simp only [mkT] at h
  rcases mkT_get ts vs _ h with ⟨j, h1, h2⟩ | h
  ·exact .inl ⟨j + 1, by simpa using h1, by simpa using h2⟩
  ·rcases Tr.get_set h with ⟨rfl, rfl⟩ | ⟨_, h⟩
   ·exact .inl ⟨0, rfl, rfl⟩
   ·exact .inr h
 | [], [], T, i, x, h => .inr h
 | [], _ :: _, T, i, x, h => .inr h
 | _ :: _, [], T, i, x, h => .inr h
theorem mkH_get : ∀ (ks : List Nat) (es : List (Bool × Blk)) (j0 : Nat) (H : Tr Ent) {k : Nat} {e : Ent}, (mkH ks es j0 H).get k = some e → (∃ j : Nat, ks[j]? = some k ∧ ∃ p, es[j]? = some p ∧ e = { ver := j0 + j, fz := p.1, blk := p.2 }) ∨ H.get k = some e
 | k' :: ks, p :: es, j0, H, k, e, h => by
  simp only [mkH] at h
  rcases mkH_get ks es (j0 + 1) _ h with ⟨j, h1, p', h2, h3⟩ | h
  ·exact .inl ⟨j + 1, by simpa using h1, p', by simpa using h2, by rw [h3]; congr 1; omega⟩
  ·rcases Tr.get_set h with ⟨rfl, rfl⟩ | ⟨_, h⟩
   ·exact .inl ⟨0, rfl, p, rfl, rfl⟩
   ·exact .inr h
 | [], [], _, H, k, e, h => .inr h
 | [], _ :: _, _, H, k, e, h => .inr h
 | _ :: _, [], _, H, k, e, h => .inr h
theorem canonT_get {vm : Nat → Option Nat} {T : Tr AV} : ∀ {ts : List Tmp} {j : Nat} {i : Tmp} {x : AV}, ts[j]? = some i → (canonT vm T ts)[j]? = some x → x = .bad ∨ ∃ a, T.get i = some a ∧ x = renA vm a
 | t :: ts, 0, i, x, h1, h2 => by
  simp only [List.getElem?_cons_zero, Option.some.injEq] at h1; subst h1
  simp only [canonT, List.getElem?_cons_zero, Option.some.injEq] at h2
  cases hT : T.get t with
  | none => rw [hT] at h2; exact .inl h2.symm
  | some a => rw [hT] at h2; exact .inr ⟨a, rfl, h2.symm⟩
 | t :: ts, j + 1, i, x, h1, h2 => canonT_get (ts := ts) (j := j) (by simpa using h1) (by simpa [canonT] using h2)
 | [], j, i, x, h1, h2 => by simp at h1
theorem canonH_get {keep : FuncId → List Tmp} {vm : Nat → Option Nat} {H : Tr Ent} : ∀ {ks : List Nat} {es : List (Bool × Blk)}, canonH keep vm H ks = some es → ∀ {j : Nat} {k : Nat} {p : Bool × Blk}, ks[j]? = some k → es[j]? = some p → ∃ e, H.get k = some e ∧ canonE keep vm e = some p
 | [], es, h, j, k, p, h1, _ => by simp at h1
 | k' :: ks, es, h, j, k, p, h1, h2 => by
  simp only [canonH] at h
  split at h
  ·cases h
  ·rename_i e he
   split at h
   ·rename_i p' ps hp hps
    simp only [Option.some.injEq] at h; subst h
    cases j with
    | zero => simp only [List.getElem?_cons_zero, Option.some.injEq] at h1 h2; subst h1; subst h2; exact ⟨e, he, hp⟩
    | succ j => exact canonH_get hps (by simpa using h1) (by simpa using h2)
   ·cases h
theorem idxN_get {r : Nat} : ∀ {l : List Nat} {i j : Nat}, idxN r l i = some j → i ≤ j ∧ l[j - i]? = some r
 | [], i, j, h => by simp [idxN] at h
 | x :: xs, i, j, h => by
  simp only [idxN] at h
  cases hb : Nat.beq x r with
  | true =>
   simp only [hb, cond_true, Option.some.injEq] at h; subst h
   exact ⟨Nat.le_refl _, by simp [Nat.eq_of_beq_eq_true hb]⟩
  | false =>
   simp only [hb, cond_false] at h
   obtain ⟨h1, h2⟩ := idxN_get h
   refine ⟨by omega, ?_⟩
   have : j - i = (j - (i + 1)) + 1 := by omega
   rw [this]; simpa using h2
theorem versOf_get {H : Tr Ent} : ∀ {ks : List Nat} {j r : Nat}, (versOf H ks)[j]? = some r → ∃ k, ks[j]? = some k ∧ r = (match H.get k with | some e => e.ver | none => 0)
 | [], j, r, h => by simp [versOf] at h
 | k :: ks, 0, r, h => by simp only [versOf, List.getElem?_cons_zero, Option.some.injEq] at h; exact ⟨k, rfl, h.symm⟩
 | k :: ks, j + 1, r, h => by simp only [versOf, List.getElem?_cons_succ] at h; obtain ⟨k', h1, h2⟩ := versOf_get h; exact ⟨k', by simpa using h1, h2⟩
theorem nodupN_get : ∀ {l : List Nat}, nodupN l = true → ∀ {i j k : Nat}, l[i]? = some k → l[j]? = some k → i = j
 | [], _, i, j, k, h, _ => by simp at h
 | x :: xs, hn, i, j, k, h1, h2 => by
  simp only [nodupN, Bool.and_eq_true, Bool.not_eq_true'] at hn
  have hx : ∀ {i : Nat}, xs[i]? = some x → False := fun {i} h => by
   have := memN_iff.2 (List.mem_of_getElem? h); rw [hn.1] at this; cases this
  cases i with
  | zero =>
   simp only [List.getElem?_cons_zero, Option.some.injEq] at h1; subst h1
   cases j with
   | zero => rfl
   | succ j => exact (hx (by simpa using h2)).elim
  | succ i =>
   cases j with
   | zero => simp only [List.getElem?_cons_zero, Option.some.injEq] at h2; subst h2; exact (hx (by simpa using h1)).elim
   | succ j => exact congrArg (· + 1) (nodupN_get hn.2 (i := i) (j := j) (k := k) (by simpa using h1) (by simpa using h2))
theorem perOk_get : ∀ {p i : Nat} {vs : List Nat}, perOk p i vs = true → ∀ {j : Nat}, j < p → vs[j]? = some (i + j)
 | 0, _, _, _, j, hj => by omega
 | p + 1, i, [], h, _, _ => by simp [perOk] at h
 | p + 1, i, v :: vs, h, j, hj => by
  simp only [perOk, Bool.and_eq_true] at h
  cases j with
  | zero => simp [Nat.eq_of_beq_eq_true h.1]
  | succ j => rw [List.getElem?_cons_succ, perOk_get h.2 (by omega)]; congr 1; omega
theorem allLt_get : ∀ {l : List Nat} {n : Nat}, allLt n l = true → ∀ {i k : Nat}, l[i]? = some k → k < n
 | [], n, _, i, k, h => by simp at h
 | x :: xs, n, hn, i, k, h => by
  simp only [allLt, Bool.and_eq_true] at hn
  cases i with
  | zero => simp only [List.getElem?_cons_zero, Option.some.injEq] at h; subst h; exact Nat.le_of_ble_eq_true hn.1
  | succ i => exact allLt_get hn.2 (by simpa using h)
theorem entClosed_get : ∀ {es : List (Bool × Blk)}, EnC es → ∀ {j : Nat} {p : Bool × Blk}, es[j]? = some p → p.1 = false → (∀ sz l ex, p.2 = .arr sz l ex → ClosedL l) ∧ (∀ ks vs, p.2 = .map ks vs → ClosedL ks ∧ ClosedL vs)
 | [], _, j, p, h, _ => by simp at h
 | (fz, bl) :: es, hc, j, p, h, hf => by
  have hrest : EnC es := by
   cases fz <;> cases bl <;> first | exact hc | exact hc.2
  cases j with
  | succ j => exact entClosed_get hrest (by simpa using h) hf
  | zero =>
   simp only [List.getElem?_cons_zero, Option.some.injEq] at h; subst h
   simp only at hf; subst hf
   refine ⟨fun sz l ex he => ?_, fun ks vs he => ?_⟩
   ·simp only at he; subst he; exact hc.1
   ·simp only at he; subst he; exact hc.1
section
variable {base : Nat} {im0 : Nat → Prop} {nt lo : Nat} {M0 : Mem} {keep : FuncId → List Tmp}
def muAt (M : Mem) (H : Tr Ent) (ks : List Nat) (j : Nat) : Option (Nat × Nat) :=
 match ks[j]? with
 | some k => (match H.get k with | some e => M.mu e.ver | none => none)
 | none => none
theorem canonH_all {vm : Nat → Option Nat} {H : Tr Ent} : ∀ {ks : List Nat} {es : List (Bool × Blk)}, canonH keep vm H ks = some es → ∀ {j k : Nat}, ks[j]? = some k → ∃ e, H.get k = some e
 | [], es, _, j, k, hk => by simp at hk
 | k' :: ks, es, h, j, k, hk => by
  simp only [canonH] at h
  split at h
  ·cases h
  ·rename_i e he
   split at h
   ·rename_i p ps hp hps
    cases j with
    | zero => simp only [List.getElem?_cons_zero, Option.some.injEq] at hk; subst hk; exact ⟨e, he⟩
    | succ j => exact canonH_all hps (by simpa using hk)
   ·cases h
theorem canon_at {M1 : Mem} {p : Nat} {ts : List Tmp} {ks : List Nat} {st : St} {vs : List AV} {es : List (Bool × Blk)} {nf : Nat} (h : canon keep p nt ts ks st = some (vs, es)) (hc : EnC es) {a : Act} {M : Mem}
  (hT : RepT M nt st.T a.tmps) (hs : SimH M base im0 st.nv st.H) (hmk : Marks M lo a.defers) (hb1 : Below base M1.w M.w) (hmu1 : ∀ r x, M1.mu r = some x → muAt M st.H ks r = some x) (himm1 : ∀ b, M1.imm b → M.imm b)
  (hsame1 : ∀ b, M1.imm b → M.w.heap[b]? = M1.w.heap[b]?) (hcok1 : M.cok = M1.cok) : Now base im0 nt lo M1 (mkSt ts ks nf vs es) a M.w := by
 unfold canon at h
 cases hchk : (nodupN ks && allLt nt ts && perOk p 0 (versOf st.H ks)) with
 | false => simp [hchk] at h
 | true =>
  simp only [hchk, cond_true] at h
  simp only [Bool.and_eq_true] at hchk
  obtain ⟨⟨hnd, hlt⟩, _⟩ := hchk
  split at h
  ·cases h
  ·rename_i es' hes
   simp only [Option.some.injEq, Prod.mk.injEq] at h
   obtain ⟨rfl, rfl⟩ := h
   let M' : Mem := { M with mu := muAt M st.H ks }
   have hmu : ∀ {j k : Nat} {e : Ent}, ks[j]? = some k → st.H.get k = some e → M'.mu j = M.mu e.ver := fun {j _ _} h1 h2 => by
    show muAt M st.H ks j = _
    unfold muAt
    rw [h1]; simp only [h2]
   have hallget : ∀ {j k : Nat}, ks[j]? = some k → ∃ e, st.H.get k = some e := fun hk => canonH_all hes hk
   have hvm : ∀ r j, (fun r => idxN r (versOf st.H ks) 0) r = some j → M'.mu j = M.mu r := fun r j hj => by
    obtain ⟨_, h2⟩ := idxN_get hj
    rw [Nat.sub_zero] at h2
    obtain ⟨k, hk, hr⟩ := versOf_get h2
    obtain ⟨e, he⟩ := hallget hk
    rw [he] at hr
    simp only at hr
    rw [hmu hk he, hr]
   have hvmb : ∀ r j, (fun r => idxN r (versOf st.H ks) 0) r = some j → M'.bare.mu j = M.bare.mu r := fun _ _ _ => rfl
   have hle : M1.le M' := ⟨hmu1, himm1, hsame1, hcok1⟩
   refine ⟨M', rfl, hle, hb1, ⟨hT.1, fun i x hi => ?_⟩, ?_, ?_⟩
   ·rcases mkT_get ts _ .leaf hi with ⟨j, h1, h2⟩ | h
    ·refine ⟨allLt_get hlt h1, ?_⟩
     rcases canonT_get h1 h2 with rfl | ⟨a', ha, rfl⟩
     ·unfold Rep; trivial
     ·exact renA_rep hvm rfl rfl _ _ (hT.2 i a' ha).2
    ·rw [Tr.get_leaf] at h; cases h
   ·exact {
     ent := fun k e' he' => by
      rcases mkH_get ks es' 0 .leaf he' with ⟨j, h1, p, h2, rfl⟩ | h
      ·obtain ⟨e, he, hce⟩ := canonH_get hes h1 h2
       obtain ⟨b, ct, hE⟩ := hs.ent k e he
       have hcl := entClosed_get hc h2
       rw [Nat.zero_add]
       have hfz : p.1 = e.fz := by
        unfold canonE at hce
        split at hce
        ·cases hce; rfl
        ·cases hce; rfl
        ·cases hce; rfl
        ·cases hce; rfl
        ·rename_i fid fb nt' T ps asg bd pend hbl
         cases hkl : allLt nt' (keep fid) with
         | false => simp [hkl] at hce
         | true => simp only [hkl, cond_true, Option.some.injEq] at hce; cases hce; rfl
       have bare : ∀ {es : List AV} {ys : List Value}, RepL M.bare es ys → RepL M'.bare es ys := fun h => h
       have hblk : BlkIs M' b ct p.2 ∧ (e.fz = true → BlkIs M'.bare b ct p.2) := by
        have hb := hE.blk
        have hbf := fun x => (hE.fz x).2
        unfold canonE at hce
        split at hce
        ·rename_i cs hbl
         rw [hbl] at hb hbf
         simp only [Option.some.injEq] at hce; subst hce
         obtain ⟨arr, ty, h3, h4⟩ := hb
         refine ⟨⟨arr, ty, h3, renL_rep hvm rfl rfl _ _ h4⟩, fun x => ?_⟩
         obtain ⟨arr, ty, h3, h4⟩ := hbf x
         exact ⟨arr, ty, h3, renL_rep hvmb rfl rfl _ _ h4⟩
        ·rename_i sz l ex hbl
         rw [hbl] at hb hbf
         simp only [Option.some.injEq] at hce; subst hce
         have hbb : BlkIs M.bare b ct (.arr sz l ex) := by
          cases hf : e.fz with
          | true => exact hbf hf
          | false =>
           obtain ⟨arr, ty, ys, h3, h4, h5⟩ := hb
           exact ⟨arr, ty, ys, h3, (hcl hf).1 sz l ex rfl M ys h4, h5⟩
         exact ⟨BlkIs.mono (M := M.bare) (M' := M') (Mem.bare_le M') rfl hbb, fun _ => hbb⟩
        ·rename_i kk vv hbl
         rw [hbl] at hb hbf
         simp only [Option.some.injEq] at hce; subst hce
         have hbb : BlkIs M.bare b ct (.map kk vv) := by
          cases hf : e.fz with
          | true => exact hbf hf
          | false =>
           obtain ⟨es, cl, h3, h4, h5⟩ := hb
           exact ⟨es, cl, h3, ((hcl hf).2 kk vv rfl).1 M _ h4, ((hcl hf).2 kk vv rfl).2 M _ h5⟩
         exact ⟨BlkIs.mono (M := M.bare) (M' := M') (Mem.bare_le M') rfl hbb, fun _ => hbb⟩
        ·rename_i s' p' hbl
         rw [hbl] at hb hbf
         simp only [Option.some.injEq] at hce; subst hce
         exact ⟨hb, fun _ => hb⟩
        ·rename_i fid fb nt' T ps asg bd pend hbl
         rw [hbl] at hb hbf
         cases hkl : allLt nt' (keep fid) with
         | false => simp [hkl] at hce
         | true =>
         simp only [hkl, cond_true, Option.some.injEq] at hce; subst hce
         have conv : ∀ {N N' : Mem}, (∀ r j, (fun r => idxN r (versOf st.H ks) 0) r = some j → N'.mu j = N.mu r) → N'.imm = N.imm → N'.w = N.w → N'.cok = N.cok → BlkIs N b ct (.loop fid fb nt' T ps asg bd pend) →
           BlkIs N' b ct (.loop fid fb nt' (mkT (keep fid) (canonT (fun r => idxN r (versOf st.H ks) 0) T (keep fid)) .leaf) ps asg bd pend) := by
          intro N N' hv hi hw hck hb
          obtain ⟨l, h3, c1, c2, p1, p2, p3, p4, p5⟩ := hb
          refine ⟨l, by rw [hw]; exact h3, hck.symm ▸ c1, hck.symm ▸ c2, p1, p2, p3, ⟨p4.1, fun i x hi' => ?_⟩, p5⟩
          rcases mkT_get _ _ .leaf hi' with ⟨j, k1, k2⟩ | k
          ·refine ⟨allLt_get hkl k1, ?_⟩
           rcases canonT_get k1 k2 with rfl | ⟨a', ha, rfl⟩
           ·unfold Rep; trivial
           ·exact renA_rep hv hi hw _ _ (p4.2 i a' ha).2
          ·rw [Tr.get_leaf] at k; cases k
         exact ⟨conv hvm rfl rfl rfl hb, fun x => conv hvmb rfl rfl rfl (hbf x)⟩
       exact ⟨b, ct, (hmu h1 he).trans hE.mu, hblk.1, hE.base, fun x => ⟨(hE.fz (hfz ▸ x)).1, hblk.2 (hfz ▸ x)⟩, fun x => hE.own (hfz ▸ x)⟩
      ·rw [Tr.get_leaf] at h; cases h
     inj := fun k e k' e' b ct ct' h1 h2 hk m1 m2 => by
      rcases mkH_get ks es' 0 .leaf h1 with ⟨j, g1, p, g2, rfl⟩ | h
      ·rcases mkH_get ks es' 0 .leaf h2 with ⟨j', g1', p', g2', rfl⟩ | h
       ·obtain ⟨e1, he1⟩ := hallget g1
        obtain ⟨e2, he2⟩ := hallget g1'
        simp only [Nat.zero_add] at m1 m2
        rw [hmu g1 he1] at m1; rw [hmu g1' he2] at m2
        exact hs.inj k e1 k' e2 b ct ct' he1 he2 hk m1 m2
       ·rw [Tr.get_leaf] at h; cases h
      ·rw [Tr.get_leaf] at h; cases h
     fresh := fun r x hr => by
      have hr' : muAt M st.H ks r = some x := hr
      unfold muAt at hr'
      show r < ks.length
      cases hk : ks[r]? with
      | none => rw [hk] at hr'; cases hr'
      | some k => exact (List.getElem?_eq_some_iff.1 hk).1
     lt := hs.lt
     old := hs.old
     lo := hs.lo
     new := hs.new
     size := hs.size }
   ·obtain ⟨rs, e, h1, h2⟩ := hmk
    exact ⟨rs, e, h1, h2⟩
theorem muAt_per {M : Mem} {H : Tr Ent} {ks : List Nat} {p r : Nat} {x : Nat × Nat} (hp : perOk p 0 (versOf H ks) = true) (hr : r < p) (hall : ∀ {j k : Nat}, ks[j]? = some k → ∃ e, H.get k = some e) (hx : M.mu r = some x) : muAt M H ks r = some x := by
 have h1 := perOk_get hp hr
 obtain ⟨k, hk, he⟩ := versOf_get h1
 obtain ⟨e, hge⟩ := hall hk
 unfold muAt
 rw [hk]
 rw [hge] at he
 simp only [hge]
 simp only [Nat.zero_add] at he
 rw [← he]; exact hx
theorem canon_now {p : Nat} {ts : List Tmp} {ks : List Nat} {st : St} {vs : List AV} {es : List (Bool × Blk)} {nf : Nat} (h : canon keep p nt ts ks st = some (vs, es)) (hc : EnC es) (hm : ∀ r, p ≤ r → M0.mu r = none) {a : Act} {w : World}
  (hn : Now base im0 nt lo M0 st a w) : Now base im0 nt lo M0 (mkSt ts ks nf vs es) a w := by
 obtain ⟨M, rfl, hle0, hb0, hT, hs, hmk⟩ := hn
 refine canon_at h hc hT hs hmk hb0 (fun r x hx => ?_) hle0.imm hle0.same hle0.cok
 have hx' := hle0.mu r x hx
 by_cases hr : r < p
 ·unfold canon at h
  cases hchk : (nodupN ks && allLt nt ts && perOk p 0 (versOf st.H ks)) with
  | false => simp [hchk] at h
  | true =>
   simp only [hchk, cond_true] at h
   simp only [Bool.and_eq_true] at hchk
   split at h
   ·cases h
   ·rename_i es' hes
    exact muAt_per hchk.2 hr (fun hk => canonH_all hes hk) hx'
 ·rw [hm r (by omega)] at hx; cases hx
def Tr.map {α β : Type} (f : α → β) : Tr α → Tr β
 | .leaf => .leaf
 | .node o l r => .node (o.map f) (l.map f) (r.map f)
theorem Tr.get_map {α β : Type} {f : α → β} : ∀ {t : Tr α} {i : Nat} {y : β}, (t.map f).get i = some y → ∃ x, t.get i = some x ∧ y = f x
 | .leaf, i, y, h => by unfold Tr.map at h; rw [Tr.get_leaf] at h; cases h
 | .node o l r, 0, y, h => by
  unfold Tr.map Tr.get at h
  unfold Tr.get
  simp only [Option.map_eq_some_iff] at h
  obtain ⟨x, hx, rfl⟩ := h
  exact ⟨x, hx, rfl⟩
 | .node o l r, n + 1, y, h => by
  unfold Tr.map Tr.get at h
  unfold Tr.get
  cases hb : Nat.beq (n % 2) 0 with
  | true => rw [hb, cond_true] at h; rw [cond_true]; exact Tr.get_map h
  | false => rw [hb, cond_false] at h; rw [cond_false]; exact Tr.get_map h
def unV (p : Nat) (vers : List Nat) (nv j : Nat) : Nat := bif Nat.blt j p then (match vers[j]? with | some v => v | none => 0) else nv + j
def renB (vm : Nat → Option Nat) : Blk → Blk
 | .box cs => .box (renA.renL vm cs)
 | .loop fid fb nt T ps asg bd pend => .loop fid fb nt (T.map (renA vm)) ps asg bd pend
 | b => b
def mkHv (vf : Nat → Nat) : List Nat → List (Bool × Blk) → Nat → Tr Ent → Tr Ent
 | k :: ks, e :: es, j, H => mkHv vf ks es (j + 1) (H.set k { ver := vf j, fz := e.1, blk := renB (fun j => some (vf j)) e.2 })
 | _, _, _, H => H
def backSt (p : Nat) (vers : List Nat) (nv : Nat) (ts : List Tmp) (ks : List Nat) (nf : Nat) (vs : List AV) (es : List (Bool × Blk)) : St :=
 { T := mkT ts (renA.renL (fun j => some (unV p vers nv j)) vs) .leaf, H := mkHv (unV p vers nv) ks es 0 .leaf, nv := nv + ks.length, nf := nf }
theorem renL_get {vm : Nat → Option Nat} : ∀ {vs : List AV} {j : Nat} {x : AV}, (renA.renL vm vs)[j]? = some x → ∃ y, vs[j]? = some y ∧ x = renA vm y
 | [], j, x, h => by simp [renA.renL] at h
 | v :: vs, 0, x, h => by simp only [renA.renL, List.getElem?_cons_zero, Option.some.injEq] at h; exact ⟨v, rfl, h.symm⟩
 | v :: vs, j + 1, x, h => by simp only [renA.renL, List.getElem?_cons_succ] at h ⊢; exact renL_get h
theorem mkHv_get {vf : Nat → Nat} : ∀ (ks : List Nat) (es : List (Bool × Blk)) (j0 : Nat) (H : Tr Ent) {k : Nat} {e : Ent}, (mkHv vf ks es j0 H).get k = some e →
  (∃ j : Nat, ks[j]? = some k ∧ ∃ p, es[j]? = some p ∧ e = { ver := vf (j0 + j), fz := p.1, blk := renB (fun j => some (vf j)) p.2 }) ∨ H.get k = some e
 | k' :: ks, p :: es, j0, H, k, e, h => by
  simp only [mkHv] at h
  rcases mkHv_get ks es (j0 + 1) _ h with ⟨j, h1, p', h2, h3⟩ | h
  ·refine .inl ⟨j + 1, by simpa using h1, p', by simpa using h2, ?_⟩
   rw [h3]
   have : j0 + 1 + j = j0 + (j + 1) := by omega
   rw [this]
  ·rcases Tr.get_set h with ⟨rfl, rfl⟩ | ⟨_, h⟩
   ·exact .inl ⟨0, rfl, p, rfl, rfl⟩
   ·exact .inr h
 | [], [], _, H, k, e, h => .inr h
 | [], _ :: _, _, H, k, e, h => .inr h
 | _ :: _, [], _, H, k, e, h => .inr h
theorem mkH_at : ∀ (ks : List Nat) (es : List (Bool × Blk)) (j0 : Nat) (H : Tr Ent), nodupN ks = true → ∀ {j k : Nat} {p : Bool × Blk}, ks[j]? = some k → es[j]? = some p → (mkH ks es j0 H).get k = some { ver := j0 + j, fz := p.1, blk := p.2 }
 | [], _, _, _, _, j, k, p, h, _ => by simp at h
 | _ :: _, [], _, _, _, j, k, p, _, h => by simp at h
 | k' :: ks, e :: es, j0, H, hn, j, k, p, h1, h2 => by
  simp only [nodupN, Bool.and_eq_true, Bool.not_eq_true'] at hn
  simp only [mkH]
  cases j with
  | zero =>
   simp only [List.getElem?_cons_zero, Option.some.injEq] at h1 h2; subst h1; subst h2
   have key : ∀ (ks : List Nat) (es : List (Bool × Blk)) (j0 : Nat) (H : Tr Ent), memN k' ks = false → (mkH ks es j0 H).get k' = H.get k' := by
    intro ks
    induction ks with
    | nil => intro es j0 H _; cases es <;> rfl
    | cons a ks ih =>
     intro es j0 H hm
     cases es with
     | nil => rfl
     | cons b es =>
      simp only [memN] at hm
      cases hb : Nat.beq k' a with
      | true => simp [hb] at hm
      | false =>
       simp only [hb, cond_false] at hm
       simp only [mkH]
       rw [ih es (j0 + 1) _ hm, Tr.get_set_ne (fun e => by rw [e, Nat.beq_refl] at hb; cases hb)]
   rw [key ks es (j0 + 1) _ hn.1, Tr.get_set_self]; rfl
  | succ j =>
   rw [mkH_at ks es (j0 + 1) _ hn.2 (j := j) (by simpa using h1) (by simpa using h2)]
   have : j0 + 1 + j = j0 + (j + 1) := by omega
   rw [this]
theorem back_now {p : Nat} {ts2 : List Tmp} {ks ks2 : List Nat} {st : St} {vs : List AV} {es : List (Bool × Blk)} {nf : Nat} {M N : Mem} {a : Act} {w : World}
    (hs : SimH M base im0 st.nv st.H) (hN : N.mu = fun r => if r < p then muAt M st.H ks r else none) (hNi : N.imm = M.imm) (hNw : N.w = M.w) (hNc : N.cok = M.cok) (hn2 : nodupN ks2 = true) (_hp2 : p ≤ ks2.length) (hpk : p ≤ ks.length) (hall : ∀ {j k : Nat}, ks[j]? = some k → ∃ e, st.H.get k = some e)
    (hlen : es.length = ks2.length) (hc : EnC es) (hle0 : M0.le M) (hb0 : Below base M0.w M.w) (hn : Now base im0 nt lo N (mkSt ts2 ks2 nf vs es) a w) :
    Now base im0 nt lo M0 (backSt p (versOf st.H ks) st.nv ts2 ks2 nf vs es) a w := by
  obtain ⟨N', rfl, hleN, hbN, hT, hsN, hmk⟩ := hn
  let vf := unV p (versOf st.H ks) st.nv
  let M' : Mem := { N' with mu := fun r => if r < st.nv then M.mu r else N'.mu (r - st.nv) }
  have hvers : ∀ j, j < p → ∃ k e, ks[j]? = some k ∧ st.H.get k = some e ∧ vf j = e.ver := by
    intro j hj
    have hk : j < ks.length := by omega
    obtain ⟨e, he⟩ := hall (List.getElem?_eq_getElem hk)
    refine ⟨_, e, List.getElem?_eq_getElem hk, he, ?_⟩
    have : (versOf st.H ks)[j]? = some e.ver := by
      have aux : ∀ (l : List Nat) (j k : Nat), l[j]? = some k → (versOf st.H l)[j]? = some (match st.H.get k with | some e => e.ver | none => 0) := by
        intro l
        induction l with
        | nil => intro j k h; simp at h
        | cons x l ih =>
          intro j k h
          cases j with
          | zero => simp only [List.getElem?_cons_zero, Option.some.injEq] at h; subst h; rfl
          | succ j => simp only [versOf, List.getElem?_cons_succ] at h ⊢; exact ih j k h
      rw [aux ks j _ (List.getElem?_eq_getElem hk), he]
    show unV p _ _ j = _
    unfold unV
    have hb : Nat.blt j p = true := Nat.ble_eq_true_of_le hj
    rw [hb, cond_true, this]
  have hvm : ∀ j, (∃ x, N'.mu j = some x) → M'.mu (vf j) = N'.mu j := by
    intro j ⟨x, hx⟩
    by_cases hj : j < p
    · obtain ⟨k, e, hk, he, hv⟩ := hvers j hj
      obtain ⟨b, ct, hE⟩ := hs.ent k e he
      rw [hv]
      have hlt := hs.fresh _ _ hE.mu
      show (if e.ver < st.nv then _ else _) = _
      rw [if_pos hlt, hE.mu]
      have : N.mu j = some (b, ct) := by
        rw [hN]; simp only [hj, if_true]
        unfold muAt; rw [hk]; simp only [he]; exact hE.mu
      exact (hleN.mu j _ this).symm
    · have : vf j = st.nv + j := by
        show unV p _ _ j = _
        unfold unV
        have hb : Nat.blt j p = false := by
          cases h : Nat.blt j p with
          | false => rfl
          | true => exact absurd (Nat.lt_of_lt_of_le (Nat.lt_succ_self _) (Nat.le_of_ble_eq_true h)) hj
        rw [hb, cond_false]
      rw [this]
      show (if st.nv + j < st.nv then _ else _) = _
      rw [if_neg (by omega)]; congr 1; omega
  have hren : ∀ (x : AV) (y : Value), Rep N' x y → Rep M' (renA (fun j => some (vf j)) x) y := fun x y h => renA_rep' (M := N') (M' := M') (fun r j hj z hz => by simp only [Option.some.injEq] at hj; subst hj; rw [hvm r ⟨z, hz⟩]; exact hz) rfl rfl x y h
  have hrenb : ∀ (x : AV) (y : Value), Rep N'.bare x y → Rep M'.bare (renA (fun j => some (vf j)) x) y := fun x y h => renA_rep' (M := N'.bare) (M' := M'.bare) (fun r j hj z hz => by cases hz) rfl rfl x y h
  have hrenL : ∀ (xs : List AV) (ys : List Value), RepL N' xs ys → RepL M' (renA.renL (fun j => some (vf j)) xs) ys := fun x y h => renL_rep' (M := N') (M' := M') (fun r j hj z hz => by simp only [Option.some.injEq] at hj; subst hj; rw [hvm r ⟨z, hz⟩]; exact hz) rfl rfl x y h
  have hrenLb : ∀ (xs : List AV) (ys : List Value), RepL N'.bare xs ys → RepL M'.bare (renA.renL (fun j => some (vf j)) xs) ys := fun x y h => renL_rep' (M := N'.bare) (M' := M'.bare) (fun r j hj z hz => by cases hz) rfl rfl x y h
  have hle : M0.le M' := by
    refine ⟨fun r x hx => ?_, fun b hb => ?_, fun b hb => ?_, ?_⟩
    · have h1 := hle0.mu r x hx
      show (if r < st.nv then _ else _) = _
      rw [if_pos (hs.fresh r x h1)]; exact h1
    · exact hleN.imm b (by rw [hNi]; exact hle0.imm b hb)
    · have h1 := hleN.same b (by rw [hNi]; exact hle0.imm b hb)
      rw [hNw] at h1
      exact h1.trans (hle0.same b hb)
    · exact (hleN.cok.trans hNc).trans hle0.cok
  have hentN : ∀ {j k : Nat} {q : Bool × Blk}, ks2[j]? = some k → es[j]? = some q → ∃ b ct, EntIs N' base { ver := j, fz := q.1, blk := q.2 } b ct := by
    intro j k q h1 h2
    have := mkH_at ks2 es 0 .leaf hn2 h1 h2
    rw [Nat.zero_add] at this
    exact hsN.ent k _ this
  refine ⟨M', rfl, hle, hb0.trans (by rw [hNw] at hbN; exact hbN), ⟨hT.1, fun i x hi => ?_⟩, ?_, ?_⟩
  · rcases mkT_get ts2 _ .leaf hi with ⟨j, h1, h2⟩ | h
    · obtain ⟨y, hy, rfl⟩ := renL_get h2
      have hlast : ∃ z, (mkT ts2 vs .leaf).get i = some z := by
        have aux : ∀ (ts : List Tmp) (vs : List AV) (T : Tr AV), ((∃ j : Nat, ts[j]? = some i ∧ ∃ y, vs[j]? = some y) ∨ ∃ z, T.get i = some z) → ∃ z, (mkT ts vs T).get i = some z := by
          intro ts
          induction ts with
          | nil => intro vs T h; rcases h with ⟨j, h, _⟩ | h; · simp at h
                   · cases vs <;> exact h
          | cons t ts ih =>
            intro vs T h
            cases vs with
            | nil => rcases h with ⟨j, _, y, h⟩ | h; · simp at h
                     · exact h
            | cons v vs =>
              simp only [mkT]
              refine ih vs _ ?_
              rcases h with ⟨j, h1, y, h2⟩ | ⟨z, hz⟩
              · cases j with
                | zero => simp only [List.getElem?_cons_zero, Option.some.injEq] at h1; subst h1; exact .inr ⟨v, Tr.get_set_self⟩
                | succ j => exact .inl ⟨j, by simpa using h1, y, by simpa using h2⟩
              · by_cases hit : i = t
                · subst hit; exact .inr ⟨v, Tr.get_set_self⟩
                · exact .inr ⟨z, by rw [Tr.get_set_ne hit]; exact hz⟩
        exact aux ts2 vs .leaf (.inl ⟨j, h1, y, hy⟩)
      obtain ⟨z, hz⟩ := hlast
      refine ⟨(hT.2 i z hz).1, ?_⟩
      -- the slot holds the last of its values
      have same : ∀ (ts : List Tmp) (vs : List AV) (T T' : Tr AV), (∀ z, T.get i = some z → T'.get i = some (renA (fun j => some (vf j)) z)) → (∀ z', T'.get i = some z' → ∃ z, T.get i = some z ∧ z' = renA (fun j => some (vf j)) z) →
          ∀ z', (mkT ts (renA.renL (fun j => some (vf j)) vs) T').get i = some z' → ∃ z, (mkT ts vs T).get i = some z ∧ z' = renA (fun j => some (vf j)) z := by
        intro ts
        induction ts with
        | nil => intro vs T T' h1 h2 z' hz'; cases vs <;> exact h2 z' hz'
        | cons t ts ih =>
          intro vs T T' h1 h2 z' hz'
          cases vs with
          | nil => exact h2 z' hz'
          | cons v vs =>
            simp only [renA.renL, mkT] at hz' ⊢
            refine ih vs _ _ (fun z hz => ?_) (fun z hz => ?_) z' hz'
            · by_cases hit : i = t
              · subst hit; rw [Tr.get_set_self] at hz ⊢; simp only [Option.some.injEq] at hz; subst hz; rfl
              · rw [Tr.get_set_ne hit] at hz ⊢; exact h1 z hz
            · by_cases hit : i = t
              · subst hit; rw [Tr.get_set_self] at hz; simp only [Option.some.injEq] at hz; subst hz; exact ⟨v, Tr.get_set_self, rfl⟩
              · rw [Tr.get_set_ne hit] at hz; obtain ⟨q, hq, e⟩ := h2 z hz; exact ⟨q, by rw [Tr.get_set_ne hit]; exact hq, e⟩
      obtain ⟨z2, hz2, e2⟩ := same ts2 vs .leaf .leaf (fun z hz => by rw [Tr.get_leaf] at hz; cases hz) (fun z hz => by rw [Tr.get_leaf] at hz; cases hz) _ hi
      rw [e2]
      exact hren _ _ (hT.2 i z2 hz2).2
    · rw [Tr.get_leaf] at h; cases h
  · exact {
      ent := fun k e he => by
        rcases mkHv_get ks2 es 0 .leaf he with ⟨j, h1, q, h2, rfl⟩ | h
        · obtain ⟨b, ct, hE⟩ := hentN h1 h2
          rw [Nat.zero_add]
          have hcl := entClosed_get hc h2
          have hblk : BlkIs M' b ct (renB (fun j => some (vf j)) q.2) ∧ (q.1 = true → BlkIs M'.bare b ct (renB (fun j => some (vf j)) q.2)) := by
            have hb := hE.blk
            have hbf := fun x => (hE.fz x).2
            simp only at hb hbf
            cases hq : q.2 with
            | box cs =>
              rw [hq] at hb hbf
              obtain ⟨arr, ty, h3, h4⟩ := hb
              refine ⟨⟨arr, ty, h3, hrenL _ _ h4⟩, fun x => ?_⟩
              obtain ⟨arr, ty, h3, h4⟩ := hbf x
              exact ⟨arr, ty, h3, hrenLb _ _ h4⟩
            | arr sz l ex =>
              rw [hq] at hb hbf
              have hbb : BlkIs N'.bare b ct (.arr sz l ex) := by
                cases hf : q.1 with
                | true => exact hbf hf
                | false => obtain ⟨arr, ty, ys, h3, h4, h5⟩ := hb; exact ⟨arr, ty, ys, h3, (hcl hf).1 sz l ex hq N' ys h4, h5⟩
              have hbb' : BlkIs M'.bare b ct (.arr sz l ex) := hbb
              exact ⟨BlkIs.mono (M := M'.bare) (M' := M') (Mem.bare_le M') rfl hbb', fun _ => hbb'⟩
            | map kk vv =>
              rw [hq] at hb hbf
              have hbb : BlkIs N'.bare b ct (.map kk vv) := by
                cases hf : q.1 with
                | true => exact hbf hf
                | false => obtain ⟨es, cl, h3, h4, h5⟩ := hb; exact ⟨es, cl, h3, ((hcl hf).2 kk vv hq).1 N' _ h4, ((hcl hf).2 kk vv hq).2 N' _ h5⟩
              have hbb' : BlkIs M'.bare b ct (.map kk vv) := hbb
              exact ⟨BlkIs.mono (M := M'.bare) (M' := M') (Mem.bare_le M') rfl hbb', fun _ => hbb'⟩
            | siter s' p' => rw [hq] at hb hbf; exact ⟨hb, fun _ => hb⟩
            | loop fid fb nt' T ps asg bd pend =>
              rw [hq] at hb hbf
              have conv : ∀ {A B : Mem}, (∀ (x : AV) (y : Value), Rep A x y → Rep B (renA (fun j => some (vf j)) x) y) → B.w = A.w → B.cok = A.cok → BlkIs A b ct (.loop fid fb nt' T ps asg bd pend) → BlkIs B b ct (renB (fun j => some (vf j)) (.loop fid fb nt' T ps asg bd pend)) := by
                intro A B hr hw hck hb
                obtain ⟨l, h3, c1, c2, p1, p2, p3, p4, p5⟩ := hb
                refine ⟨l, by rw [hw]; exact h3, hck.symm ▸ c1, hck.symm ▸ c2, p1, p2, p3, ⟨p4.1, fun i x hi' => ?_⟩, p5⟩
                obtain ⟨z, hz, rfl⟩ := Tr.get_map hi'
                exact ⟨(p4.2 i z hz).1, hr _ _ (p4.2 i z hz).2⟩
              exact ⟨conv hren rfl rfl hb, fun x => conv hrenb rfl rfl (hbf x)⟩
          exact ⟨b, ct, (hvm j ⟨_, hE.mu⟩).trans hE.mu, hblk.1, hE.base, fun x => ⟨(hE.fz x).1, hblk.2 x⟩, hE.own⟩
        · rw [Tr.get_leaf] at h; cases h
      inj := fun k e k' e' b ct ct' h1 h2 hk m1 m2 => by
        rcases mkHv_get ks2 es 0 .leaf h1 with ⟨j, g1, q, g2, rfl⟩ | h
        · rcases mkHv_get ks2 es 0 .leaf h2 with ⟨j', g1', q', g2', rfl⟩ | h
          · obtain ⟨b1, c1, hE1⟩ := hentN g1 g2
            obtain ⟨b2, c2, hE2⟩ := hentN g1' g2'
            simp only [Nat.zero_add] at m1 m2
            rw [hvm j ⟨_, hE1.mu⟩] at m1
            rw [hvm j' ⟨_, hE2.mu⟩] at m2
            have e1 := mkH_at ks2 es 0 .leaf hn2 g1 g2
            have e2 := mkH_at ks2 es 0 .leaf hn2 g1' g2'
            rw [Nat.zero_add] at e1 e2
            exact hsN.inj k _ k' _ b ct ct' e1 e2 hk m1 m2
          · rw [Tr.get_leaf] at h; cases h
        · rw [Tr.get_leaf] at h; cases h
      fresh := fun r x hr => by
        have hr' : (if r < st.nv then M.mu r else N'.mu (r - st.nv)) = some x := hr
        show r < st.nv + ks2.length
        by_cases hrn : r < st.nv
        · omega
        · rw [if_neg hrn] at hr'
          have : r - st.nv < ks2.length := hsN.fresh _ _ hr'
          omega
      lt := hsN.lt
      old := hsN.old
      lo := hsN.lo
      new := hsN.new
      size := hsN.size }
  · obtain ⟨rs, e, h1, h2⟩ := hmk
    exact ⟨rs, e, h1, h2⟩
end
end Go.Vm
