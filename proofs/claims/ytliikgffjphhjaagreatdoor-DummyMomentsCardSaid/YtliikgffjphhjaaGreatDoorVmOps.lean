/- A small evaluator over abstract values: what each operation does. -/
import Derived.Test.YtliikgffjphhjaaGreatDoorVmBase
namespace Go.Vm

/-- What of a computation of the model's needs no memory, no choice and does not halt. -/
def pureRun {α : Type} (P : Program) : Sem α → Option α
  | .pure a => some a
  | .program k => pureRun P (k P)
  | .mark _ k => pureRun P k
  | _ => none

structure TI where
  desc : TypeDesc
  size : Nat
  agg : Bool
  bytes : Nat
  zero : Option Value

structure FI where
  ntmps : Nat
  results : List ResultVar
  body : Code

inductive Md where
  | tree | inl | spec

/-- Which block an operation may turn: the one that it makes for its slot; the one that a slot's pointer leads to; any. -/
inductive Tc where
  | slot (t : Tmp)
  | at_ (t : Tmp)
  | all

/-- Of an operation in a region that draws its order: what it does (0: it only computes; 1: it reads; 2: it turns one block; 3: it may turn any), which block it may turn, which blocks the operations that are not ordered to it may turn, and which operations stand ahead of it in every order. -/
structure DI where
  cls : Nat
  own : Tc
  un : List Tc
  anc : List Nat

structure Cx where
  P : Program
  ty : TypeId → Option TI
  fn : FuncId → Option FI
  mode : FuncId → Md
  spec : FuncId → List AV → Option AV
  glob : Nat → Option (List AV)
  fuel : Nat
  draw : FuncId → Nat → Option (List DI)
  pre : FuncId → Nat → List Tmp
  keep : FuncId → List Tmp

inductive Blk where
  | box (cs : List AV)
  | arr (sz : Nat) (es : List AV) (exact : Bool)
  | map (ks vs : List AV)
  | siter (s : ByteArray) (pos : Nat)
  | loop (f : FuncId) (fb : Nat) (nt : Nat) (T : Tr AV) (params : List Tmp) (assign body : Code) (pending : Option (Option Code))

structure Ent where
  ver : Nat
  fz : Bool
  blk : Blk

structure St where
  T : Tr AV
  H : Tr Ent
  nv : Nat
  nf : Nat

def ofV : Value → AV
  | .agg cs => .agg (cs.toList.map .v)
  | x => .v x

def cellsV : List AV → Option (List Value)
  | [] => some []
  | .v x :: cs => (cellsV cs).map (x :: ·)
  | _ :: _ => none

def toV : AV → Option Value
  | .v x => some x
  | .agg cs => (cellsV cs).map fun l => .agg l.toArray
  | .fn f [] [] => some (.func f #[] #[])
  | _ => none

def toVL : List AV → Option (List Value)
  | [] => some []
  | a :: as => match toV a, toVL as with
    | some x, some xs => some (x :: xs)
    | _, _ => none

def Value.single : Value → Bool
  | .agg _ => false
  | .tuple _ => false
  | _ => true

/-- The cells of a value that may be laid into memory. -/
def AV.single : AV → Bool
  | .bad | .agg _ | .tup _ => false
  | .v x => Value.single x
  | _ => true
def cells? (a : AV) : Option (List AV) :=
  match a with
  | .agg cs => bif cs.all AV.single then some cs else none
  | x => bif x.single then some [x] else none

def live (H : Tr Ent) (k r : Nat) : Option Ent :=
  match H.get k with
  | some e => bif Nat.beq e.ver r then some e else none
  | none => none

/-- The cells from a pointer on, as far as its variable or element goes. -/
def cellsAt (H : Tr Ent) : AV → Option (List AV)
  | .ptr k r off => match live H k r with
    | some { blk := .box cs, .. } => some (cs.drop off)
    | _ => none
  | .eptr k r sz i off => match live H k r with
    | some { blk := .arr sz' es _, .. } => bif Nat.beq sz sz' then (es[i]?).bind fun e => (cells? e).map (·.drop off) else none
    | _ => none
  | .rptr cs => some cs
  | _ => none

def splice (cs : List AV) (off : Nat) (vs : List AV) : List AV := cs.take off ++ vs ++ cs.drop (off + vs.length)

/-- Freezing: a value without a reference to a block that may be written again. -/
def freezeL (fz : Tr Ent → AV → Option (AV × Tr Ent)) : Tr Ent → List AV → Option (List AV × Tr Ent)
  | H, [] => some ([], H)
  | H, a :: as => match fz H a with
    | none => none
    | some (a', H1) => match freezeL fz H1 as with
      | none => none
      | some (as', H2) => some (a' :: as', H2)

def freeze : Nat → Tr Ent → AV → Option (AV × Tr Ent)
  | 0, _, _ => none
  | n + 1, H, a =>
    match a with
    | .bad => none
    | .v x => some (.v x, H)
    | .rptr cs => some (.rptr cs, H)
    | .rsl sz es x => some (.rsl sz es x, H)
    | .rmp ks vs => some (.rmp ks vs, H)
    | .agg cs => (freezeL (freeze n) H cs).map fun (cs', H') => (.agg cs', H')
    | .tup cs => (freezeL (freeze n) H cs).map fun (cs', H') => (.tup cs', H')
    | .fn f as bs => match freezeL (freeze n) H as with
      | none => none
      | some (as', H1) => (freezeL (freeze n) H1 bs).map fun (bs', H2) => (.fn f as' bs', H2)
    | .ifc t x => (freeze n H x).map fun (x', H') => (.ifc t x', H')
    | .ptr k r off => match live H k r with
      | some { fz := true, blk := .box cs, .. } => some (.rptr (cs.drop off), H)
      | some { fz := false, blk := .box cs, .. } =>
        match freezeL (freeze n) H cs with
        | none => none
        | some (cs', H') => bif (live H' k r).isSome then some (.rptr (cs'.drop off), H'.set k { ver := r, fz := true, blk := .box cs' }) else none
      | _ => none
    | .eptr k r sz i off => match live H k r with
      | some { fz := true, blk := .arr sz' es _, .. } =>
        bif Nat.beq sz sz' then (es[i]?).bind fun e => (cells? e).map fun cs => (.rptr (cs.drop off), H) else none
      | some { fz := false, blk := .arr sz' es x, .. } =>
        match freezeL (freeze n) H es with
        | none => none
        | some (es', H') =>
          bif Nat.beq sz sz' && (live H' k r).isSome then (es'[i]?).bind fun e => (cells? e).map fun cs => (.rptr (cs.drop off), H'.set k { ver := r, fz := true, blk := .arr sz' es' x }) else none
      | _ => none
    | .sl k r sz lo len => match live H k r with
      | some { fz := true, blk := .arr sz' es x, .. } =>
        bif Nat.beq sz sz' && Nat.ble (lo + len) es.length then some (.rsl sz ((es.drop lo).take len) (x && Nat.beq (lo + len) es.length), H) else none
      | some { fz := false, blk := .arr sz' es x, .. } =>
        match freezeL (freeze n) H es with
        | none => none
        | some (es', H') =>
          bif Nat.beq sz sz' && Nat.ble (lo + len) es'.length && (live H' k r).isSome then some (.rsl sz ((es'.drop lo).take len) (x && Nat.beq (lo + len) es'.length), H'.set k { ver := r, fz := true, blk := .arr sz' es' x }) else none
      | _ => none
    | .mp k r => match live H k r with
      | some { fz := true, blk := .map ks vs, .. } => some (.rmp ks vs, H)
      | some { fz := false, blk := .map ks vs, .. } =>
        match freezeL (freeze n) H ks with
        | none => none
        | some (ks', H1) => match freezeL (freeze n) H1 vs with
          | none => none
          | some (vs', H') => bif (live H' k r).isSome then some (.rmp ks' vs', H'.set k { ver := r, fz := true, blk := .map ks' vs' }) else none
      | _ => none
    | .itr .. | .yld .. => none

def frz (H : Tr Ent) (a : AV) : Option (AV × Tr Ent) := freeze 20 H a
def frzL (H : Tr Ent) (as : List AV) : Option (List AV × Tr Ent) := freezeL (freeze 20) H as

def asI : AV → Option Int
  | .v (.int _ n) => some n
  | _ => none
def asN (a : AV) : Option Nat :=
  match a with
  | .v (.int _ (.ofNat n)) => some n
  | _ => none
def asB : AV → Option Bool
  | .v (.bool b) => some b
  | _ => none

def TI.dsc (t : Option TI) : Option TypeDesc := t.map (·.desc)

def gI (n : Nat) : AV := .v (.int .i64 n)
def gB (b : Bool) : AV := .v (.bool b)

def isS : AV → Bool
  | .rsl _ (_ :: _) _ | .sl .. => true
  | _ => false
def isM : AV → Bool
  | .mp .. | .rmp .. => true
  | _ => false
def isF : AV → Bool
  | .fn .. => true
  | _ => false
/-- Is a value that is not nil held against nil? -/
def nilCmp (d : TypeDesc) (x y : AV) : Bool :=
  match d with
  | .slice _ => (match x, y with | .v (.slice none _ _), b => isS b | a, .v (.slice none _ _) => isS a | _, _ => false)
  | .map .. => (match x, y with | .v (.map none), b => isM b | a, .v (.map none) => isM a | _, _ => false)
  | .func .. => (match x, y with | .v .nilFunc, b => isF b | a, .v .nilFunc => isF a | _, _ => false)
  | _ => false

def abin (C : Cx) (o : BinOp) (t : TypeId) (xo yo : Operand) (x y : AV) : Option AV :=
  match toV x, toV y with
  | some a, some b => (pureRun C.P (do eqGuard o t xo yo a b; binOp o t a b)).bind fun r => bif Value.single r then some (.v r) else none
  | _, _ =>
    match o, C.ty t with
    | .eql, some ti => bif nilCmp ti.desc x y then some (gB false) else none
    | .neq, some ti => bif nilCmp ti.desc x y then some (gB true) else none
    | _, _ => none

def pureOp (C : Cx) (s : Sem Value) : Option AV := (pureRun C.P s).bind fun r => bif Value.single r then some (.v r) else none

def partA (C : Cx) (t : TypeId) (cs : List AV) (off : Nat) : Option AV :=
  match C.ty t with
  | none => none
  | some ti => bif ti.agg then (bif Nat.ble (off + ti.size) cs.length then some (.agg ((cs.drop off).take ti.size)) else none) else cs[off]?

def aload (C : Cx) (H : Tr Ent) (t : TypeId) (a : AV) : Option AV :=
  match cellsAt H a with
  | none => none
  | some cs => partA C t cs 0

def one? : List AV → Option AV
  | [c] => some c
  | _ => none

def mkEl (old : AV) (cs : List AV) : Option AV :=
  match old with
  | .agg _ => some (.agg cs)
  | _ => one? cs

def astore (C : Cx) (H : Tr Ent) (t : TypeId) (a x : AV) : Option (Tr Ent) :=
  match C.ty t, cells? x with
  | some ti, some vs =>
    bif !Nat.beq vs.length ti.size then none else
    match a with
    | .ptr k r off => match live H k r with
      | some { fz := false, blk := .box cs, .. } =>
        bif Nat.ble (off + vs.length) cs.length then some (H.set k { ver := r, fz := false, blk := .box (splice cs off vs) }) else none
      | _ => none
    | .eptr k r sz i off => match live H k r with
      | some { fz := false, blk := .arr sz' es ex, .. } =>
        bif !Nat.beq sz sz' then none else
        match es[i]? with
        | none => none
        | some e => match cells? e with
          | none => none
          | some cs => bif Nat.ble (off + vs.length) cs.length then
              (mkEl e (splice cs off vs)).map fun e' => H.set k { ver := r, fz := false, blk := .arr sz' (es.set i e') ex }
            else none
      | _ => none
    | _ => none
  | _, _ => none

def fieldPl (C : Cx) : List Field → Option (List (Nat × Nat))
  | [] => some []
  | f :: fs => match C.ty f.type, fieldPl C fs with
    | some ti, some l => some ((f.offset, ti.size) :: l)
    | _, _ => none

def afill (pl : Nat → Option (Nat × Nat)) : List AV → List (Nat × AV) → Option (List AV)
  | cs, [] => some cs
  | cs, (i, x) :: rest => match pl i, cells? x with
    | some (off, size), some vs =>
      bif Nat.beq vs.length size && Nat.ble (off + vs.length) cs.length then afill pl (splice cs off vs) rest else none
    | _, _ => none

def abuild (C : Cx) (t : TypeId) (parts : List (Nat × AV)) : Option AV :=
  match C.ty t with
  | none => none
  | some ti => match ti.zero, ti.desc with
    | some (.agg z), .struct fields => match fieldPl C fields.toList with
      | some pl => (afill (fun i => pl[i]?) (z.toList.map .v) parts).map .agg
      | none => none
    | some (.agg z), .array _ elem => match C.ty elem with
      | some te => (afill (fun i => some (i * te.size, te.size)) (z.toList.map .v) parts).map .agg
      | none => none
    | _, _ => none

def aels (sz : Nat) : List AV → List (Nat × AV) → Option (List AV)
  | es, [] => some es
  | es, (i, x) :: rest => match cells? x with
    | some vs => bif Nat.beq vs.length sz && Nat.blt i es.length then aels sz (es.set i x) rest else none
    | none => none

def elemTI (C : Cx) (t : TypeId) : Option TI :=
  match C.ty t with
  | some { desc := .slice e, .. } => C.ty e
  | _ => none

def abuildSlice (C : Cx) (H : Tr Ent) (t : TypeId) (len : Nat) (parts : List (Nat × AV)) : Option (AV × Tr Ent) :=
  match elemTI C t with
  | some { size := sz, zero := some z, .. } =>
    bif Nat.ble (len * sz) 16777216 && Nat.beq z.cells.size sz then
      match frzL H (parts.map (·.2)) with
      | none => none
      | some (xs, H') => (aels sz (List.replicate len (ofV z)) ((parts.map (·.1)).zip xs)).map fun es => (.rsl sz es true, H')
    else none
  | _ => none

/-- The bounds of a slice expression: low, high, and the third index. -/
def abounds (len : Nat) (lo hi mx : Option AV) : Option (Nat × Nat × Option Nat) :=
  match (match lo with | none => some 0 | some a => asN a), (match hi with | none => some len | some a => asN a) with
  | some l, some h =>
    bif !Nat.ble l h then none else
    match mx with
    | none => some (l, h, none)
    | some a => match asN a with
      | some m => bif Nat.ble h m && hi.isSome then some (l, h, some m) else none
      | none => none
  | _, _ => none

def aslice (C : Cx) (H : Tr Ent) (t : TypeId) (x : AV) (lo hi mx : Option AV) : Option AV :=
  match x with
  | .v (.string s) =>
    match (match lo with | none => some none | some a => (toV a).map some), (match hi with | none => some none | some a => (toV a).map some), mx with
    | some l, some h, none => match C.ty t with
      | some { desc := .string, .. } => pureOp C (Instr.slice t (.string s) l h none)
      | _ => none
    | _, _, _ => none
  | .v (.slice none 0 0) => match elemTI C t, abounds 0 lo hi mx with
    | some _, some (0, 0, none) => some (.v (.slice none 0 0))
    | _, _ => none
  | .rsl sz es ex => match elemTI C t, abounds es.length lo hi mx with
    | some te, some (l, h, none) =>
      bif Nat.beq te.size sz && Nat.ble h es.length then some (.rsl sz ((es.drop l).take (h - l)) (ex && Nat.beq h es.length)) else none
    | some te, some (l, h, some m) =>
      bif Nat.beq te.size sz && Nat.ble m es.length then (bif Nat.beq m h then some (.rsl sz ((es.drop l).take (h - l)) true) else some .bad) else none
    | _, _ => none
  | .sl k r sz lo0 len => match elemTI C t, abounds len lo hi mx, live H k r with
    | some te, some (l, h, none), some { blk := .arr sz' es _, .. } =>
      bif Nat.beq te.size sz && Nat.beq sz sz' && Nat.ble (lo0 + h) es.length then some (.sl k r sz (lo0 + l) (h - l)) else none
    | some te, some (l, h, some m), some { blk := .arr sz' es _, .. } =>
      bif Nat.beq te.size sz && Nat.beq sz sz' && Nat.ble (lo0 + m) es.length then (bif Nat.beq l m then some (.rsl sz [] true) else some .bad) else none
    | _, _, _ => none
  | _ => none

def afieldAddr (C : Cx) (t : TypeId) (x : AV) (i : Nat) : Option AV :=
  match C.ty t with
  | some { desc := .struct fields, .. } => match fields[i]? with
    | some f => match C.ty f.type with
      | some ti => bif Nat.beq ti.size 0 then none else
        match x with
        | .ptr k r off => some (.ptr k r (off + f.offset))
        | .eptr k r sz j off => some (.eptr k r sz j (off + f.offset))
        | .rptr cs => some (.rptr (cs.drop f.offset))
        | _ => none
      | none => none
    | none => none
  | _ => none

def aindexAddr (C : Cx) (H : Tr Ent) (t : TypeId) (x i : AV) : Option AV :=
  match asN i with
  | none => none
  | some n =>
    match x with
    | .rsl sz es _ => match elemTI C t with
      | some te => bif Nat.beq te.size sz then (es[n]?).bind fun e => (cells? e).map .rptr else none
      | none => none
    | .sl k r sz lo len => match elemTI C t, live H k r with
      | some te, some { blk := .arr .., .. } => bif Nat.beq te.size sz && Nat.blt n len then some (.eptr k r sz (lo + n) 0) else none
      | _, _ => none
    | _ => match C.ty t with
      | some { desc := .array len elem, .. } => match C.ty elem with
        | some ti =>
          bif Nat.blt n len then
            match x with
            | .ptr k r off => some (.ptr k r (off + n * ti.size))
            | .eptr k r sz j off => some (.eptr k r sz j (off + n * ti.size))
            | .rptr cs => some (.rptr (cs.drop (n * ti.size)))
            | _ => none
          else none
        | none => none
      | _ => none

def aindex (C : Cx) (t : TypeId) (x i : AV) : Option AV :=
  match x with
  | .agg cs => match C.ty t, asN i with
    | some { desc := .array len elem, .. }, some n => match C.ty elem with
      | some ti => bif Nat.blt n len then partA C elem cs (n * ti.size) else none
      | none => none
    | _, _ => none
  | _ => match toV x, toV i with
    | some a, some b => pureOp C (Instr.index t a b)
    | _, _ => none

def afield (C : Cx) (t : TypeId) (x : AV) (i : Nat) : Option AV :=
  match x, C.ty t with
  | .agg cs, some { desc := .struct fields, .. } => match fields[i]? with
    | some f => partA C f.type cs f.offset
    | none => none
  | _, _ => none

def keyKind : TypeDesc → Value → Bool
  | .int _, .int .. | .string, .string _ | .bool, .bool _ => true
  | _, _ => false

def keyEq : Value → Value → Option Bool
  | .int k a, .int k' b => bif decide (k = k') then some (a == b) else none
  | .string a, .string b => some (a == b)
  | .bool a, .bool b => some (a == b)
  | _, _ => none

/-- Is a key that is there the key that is asked for? -/
def eqK (C : Cx) (kt : TypeId) (kd : TypeDesc) (k e : Value) : Option Bool :=
  bif keyKind kd k then keyEq k e else pureRun C.P (Op.equal kt k e)

def findK (q : Value → Option Bool) : List AV → Nat → Option (Option Nat)
  | [], _ => some none
  | a :: es, i => match toV a with
    | none => none
    | some e => match q e with
      | some true => some (some i)
      | some false => findK q es (i + 1)
      | none => none

def mapOf (H : Tr Ent) : AV → Option (List AV × List AV)
  | .v (.map none) => some ([], [])
  | .rmp ks vs => some (ks, vs)
  | .mp k r => match live H k r with
    | some { blk := .map ks vs, .. } => some (ks, vs)
    | _ => none
  | _ => none

/-- Where a key is. -/
def keyAt (C : Cx) (kt : TypeId) (ks : List AV) (empty : Bool) (key : Value) : Option (Option Nat) :=
  match C.ty kt with
  | none => none
  | some kti =>
    bif keyKind kti.desc key then findK (eqK C kt kti.desc key) ks 0
    else match kti.desc, key, pureRun C.P (Instr.checkKey empty 10000 kt key) with
      | .struct _, .agg _, some () => findK (eqK C kt kti.desc key) ks 0
      | _, _, _ => none

def alookup (C : Cx) (H : Tr Ent) (t : TypeId) (x i : AV) (ok : Bool) : Option AV :=
  match C.ty t, mapOf H x, toV i with
  | some { desc := .map kt et, .. }, some (ks, vs), some key =>
    match C.ty et, keyAt C kt ks ks.isEmpty key with
    | some _, some (some j) => (vs[j]?).map fun v => bif ok then .tup [v, gB true] else v
    | some { zero := some z, .. }, some none => some (bif ok then .tup [ofV z, gB false] else ofV z)
    | _, _ => none
  | _, _, _ => none

def amapUpdate (C : Cx) (H : Tr Ent) (t : TypeId) (x i v : AV) : Option (Tr Ent) :=
  match C.ty t, x, toV i with
  | some { desc := .map kt _, .. }, .mp k r, some key =>
    match live H k r with
    | some { fz := false, blk := .map ks vs, .. } =>
      match keyAt C kt ks false key with
      | some (some j) => (match (ks[j]?).bind toV with
        | some old => match pureRun C.P (Instr.keyThatStays old key) with
          | some _ => some (H.set k { ver := r, fz := false, blk := .map (ks.set j i) (vs.set j v) })
          | none => none
        | none => none)
      | some none => some (H.set k { ver := r, fz := false, blk := .map (ks ++ [i]) (vs ++ [v]) })
      | none => none
    | _ => none
  | _, _, _ => none

/-- What is appended or copied: elements. -/
def elemsOf (H : Tr Ent) : AV → Option (List AV)
  | .v (.slice none 0 _) => some []
  | .rsl _ es _ => some es
  | .sl k r sz lo len => match live H k r with
    | some { blk := .arr sz' es _, .. } => bif Nat.beq sz sz' && Nat.ble (lo + len) es.length then some ((es.drop lo).take len) else none
    | _ => none
  | _ => none

def allSz (sz : Nat) (es : List AV) : Bool := es.all fun e => match cells? e with | some cs => Nat.beq cs.length sz | none => false

def notSeq : TypeDesc → Bool
  | .slice _ => false
  | .string => false
  | _ => true

def aappend (C : Cx) (H : Tr Ent) (key ver : Nat) (argTypes : List TypeId) (s x : AV) : Option (AV × Tr Ent) :=
  match argTypes with
  | [st, xt] => match elemTI C st, TI.dsc (C.ty xt), elemsOf H x with
    | some { size := sz, bytes := by_, zero := some z, .. }, some xd, some xs =>
      bif notSeq xd then none else
      bif !(allSz sz xs && Nat.beq z.cells.size sz) then none else
      match xs with
      | [] => (match s with
        | .v (.slice none 0 0) => some (s, H)
        | .rsl .. => some (s, H)
        | .sl .. => some (s, H)
        | _ => none)
      | _ :: _ =>
        let fresh (es : List AV) (H : Tr Ent) : Option (AV × Tr Ent) :=
          bif Nat.ble (es.length * by_) 35184372088832 && Nat.ble es.length 35184372088832 && !Nat.beq by_ 0 then
            some (.sl key ver sz 0 es.length, H.set key { ver := ver, fz := false, blk := .arr sz es false })
          else none
        match s with
        | .v (.slice none 0 0) => fresh xs H
        | .rsl sz' es true => bif Nat.beq sz sz' then fresh (es ++ xs) H else none
        | .sl k r sz' lo len => match live H k r with
          | some { fz := fz, blk := .arr sz'' es ex, .. } =>
            bif !(Nat.beq sz sz' && Nat.beq sz sz'') then none else
            bif Nat.beq (lo + len) es.length then
              (bif ex then fresh (es.drop lo ++ xs) H
               else bif fz then none
               else bif Nat.beq lo 0 then fresh (es ++ xs) (H.del k) else none)
            else bif fz then none
            else bif Nat.ble (lo + len + xs.length) es.length then
              some (.sl k r sz lo (len + xs.length), H.set k { ver := r, fz := false, blk := .arr sz (splice es (lo + len) xs) ex })
            else none
          | _ => none
        | _ => none
    | _, _, _ => none
  | _ => none

def acopy (C : Cx) (H : Tr Ent) (argTypes : List TypeId) (d x : AV) : Option (AV × Tr Ent) :=
  match argTypes with
  | st :: _ => match elemTI C st, elemsOf H x with
    | some { size := sz, .. }, some xs =>
      bif !allSz sz xs then none else
      match d with
      | .v (.slice none 0 0) => some (gI 0, H)
      | .rsl _ [] _ => some (gI 0, H)
      | .sl k r sz' lo len => match live H k r with
        | some { fz := false, blk := .arr sz'' es ex, .. } =>
          bif Nat.beq sz sz' && Nat.beq sz sz'' && Nat.ble (lo + len) es.length then
            some (gI (Nat.min xs.length len), H.set k { ver := r, fz := false, blk := .arr sz (splice es lo (xs.take (Nat.min xs.length len))) ex })
          else none
        | _ => none
      | _ => none
    | _, _ => none
  | _ => none

def aclear (C : Cx) (H : Tr Ent) (argTypes : List TypeId) (x : AV) : Option (Tr Ent) :=
  match argTypes with
  | [t] => match C.ty t with
    | none => none
    | some _ => match x with
      | .v (.slice none _ _) => some H
      | .v (.map none) => some H
      | .rsl _ [] _ => some H
      | .mp k r => match live H k r with
        | some { fz := false, blk := .map .., .. } => some (H.set k { ver := r, fz := false, blk := .map [] [] })
        | _ => none
      | .sl k r sz lo len => match elemTI C t, live H k r with
        | some { size := sz1, zero := some z, .. }, some { fz := false, blk := .arr sz' es ex, .. } =>
          bif Nat.beq sz sz' && Nat.beq sz sz1 && Nat.beq z.cells.size sz && Nat.ble (lo + len) es.length && allSz sz (List.replicate len (ofV z)) then
            some (H.set k { ver := r, fz := false, blk := .arr sz (splice es lo (List.replicate len (ofV z))) ex })
          else none
        | _, _ => none
      | _ => none
  | _ => none

def alen (C : Cx) (H : Tr Ent) (argTypes : List TypeId) (x : AV) : Option AV :=
  match argTypes with
  | [t] => match x, TI.dsc (C.ty t) with
    | .v (.string s), some .string => some (gI s.size)
    | .v (.slice none n _), some (.slice _) => some (gI n)
    | .rsl _ es _, some (.slice _) => some (gI es.length)
    | .sl _ _ _ _ len, some (.slice _) => some (gI len)
    | .v (.map none), some (.map ..) => some (gI 0)
    | .rmp ks _, some (.map ..) => some (gI ks.length)
    | .mp k r, some (.map ..) => match live H k r with
      | some { blk := .map ks _, .. } => some (gI ks.length)
      | _ => none
    | _, some (.array n _) => some (gI n)
    | _, _ => none
  | _ => none

def acap (C : Cx) (H : Tr Ent) (argTypes : List TypeId) (x : AV) : Option AV :=
  match argTypes with
  | [t] => match x, TI.dsc (C.ty t) with
    | .v (.slice none _ n), some (.slice _) => some (gI n)
    | .rsl _ es true, some (.slice _) => some (gI es.length)
    | .sl k r _ lo _, some (.slice _) => match live H k r with
      | some { blk := .arr _ es true, .. } => some (gI (es.length - lo))
      | _ => none
    | _, _ => none
  | _ => none

def amakeSlice (C : Cx) (H : Tr Ent) (key ver : Nat) (t : TypeId) (l c : AV) : Option (AV × Tr Ent) :=
  match elemTI C t, asN l, asN c with
  | some { size := sz, bytes := by_, zero := some z, .. }, some l, some c =>
    bif Nat.ble l c && Nat.ble (c * by_) 35184372088832 && Nat.ble c 35184372088832 && Nat.beq z.cells.size sz && !Nat.beq sz 0 then
      some (.sl key ver sz 0 l, H.set key { ver := ver, fz := false, blk := .arr sz (List.replicate c (ofV z)) true })
    else none
  | _, _, _ => none

def abuiltin (C : Cx) (H : Tr Ent) (key ver : Nat) (b : Builtin) (argTypes : List TypeId) (type : TypeId) (args : List AV) : Option (AV × Tr Ent) :=
  match b, args with
  | .len, [x] => (alen C H argTypes x).map (·, H)
  | .cap, [x] => (acap C H argTypes x).map (·, H)
  | .append, [s, x] => aappend C H key ver argTypes s x
  | .copy, [d, x] => acopy C H argTypes d x
  | .clear, [x] => (aclear C H argTypes x).map (.v (.tuple #[]), ·)
  | .min, _ => match toVL args with
    | some vs => (pureOp C (Builtin.min_ argTypes.toArray type vs.toArray)).map (·, H)
    | none => none
  | .max, _ => match toVL args with
    | some vs => (pureOp C (Builtin.max_ argTypes.toArray type vs.toArray)).map (·, H)
    | none => none
  | _, _ => none

def nonNil : AV → Bool
  | .ptr .. | .eptr .. | .rptr .. | .sl .. => true
  | .fn (.func _) _ _ => true
  | _ => false

def cellsOK (cs : List AV) : Bool := cs.all AV.single

/-- An operation that calls no function: the value of its slot, and the heap behind it. 'key', 'ver': the place and the version of a block that it makes. -/
def aop (C : Cx) (ev : Operand → AV) (H : Tr Ent) (key ver : Nat) (type : TypeId) : Op → Option (AV × Tr Ent)
  | .move x | .assign x => some (ev x, H)
  | .pick c a b => (asB (ev c)).map fun t => (bif t then ev a else ev b, H)
  | .alloc t => match C.ty t with
    | some { zero := some z, .. } => some (.ptr key ver 0, H.set key { ver := ver, fz := false, blk := .box (z.cells.toList.map .v) })
    | _ => none
  | .box _ x => (cells? (ev x)).map fun cs => (.ptr key ver 0, H.set key { ver := ver, fz := false, blk := .box cs })
  | .build t parts => (abuild C t (parts.toList.map fun (i, x) => (i, ev x))).map (·, H)
  | .buildSlice t len parts => abuildSlice C H t len (parts.toList.map fun (i, x) => (i, ev x))
  | .load t a => (aload C H t (ev a)).map (·, H)
  | .store t a x => (astore C H t (ev a) (ev x)).map (.v (.tuple #[]), ·)
  | .nilCheck x => bif nonNil (ev x) then some (ev x, H) else none
  | .binOp o t x y _ => (abin C o t x y (ev x) (ev y)).map (·, H)
  | .unOp o _ x => (toV (ev x)).bind fun a => (pureOp C (Op.unary o a)).map (·, H)
  | .convert s d x => match ev x, (toV (ev x)) with
    | _, some a => (pureOp C (convert s d a)).map (·, H)
    | _, none => none
  | .makeInterface t x => match C.ty t with
    | some { desc := .interface _, .. } => none
    | some _ => some (.ifc t (ev x), H)
    | none => none
  | .makeFunc f first cap => some (.fn f (first.toList.map ev) (cap.toList.map ev), H)
  | .makeMap _ none => some (.mp key ver, H.set key { ver := ver, fz := false, blk := .map [] [] })
  | .makeSlice t l c => amakeSlice C H key ver t (ev l) (ev c)
  | .slice t x lo hi mx => (aslice C H t (ev x) (lo.map ev) (hi.map ev) (mx.map ev)).map (·, H)
  | .fieldAddr t x f => (afieldAddr C t (ev x) f).map (·, H)
  | .field t x f => (afield C t (ev x) f).map (·, H)
  | .indexAddr t x i => (aindexAddr C H t (ev x) (ev i)).map (·, H)
  | .index t x i => (aindex C t (ev x) (ev i)).map (·, H)
  | .lookup t x i ok => (alookup C H t (ev x) (ev i) ok).map (·, H)
  | .mapUpdate t m k v => (amapUpdate C H t (ev m) (ev k) (ev v)).map (.v (.tuple #[]), ·)
  | .range t x => match ev x, TI.dsc (C.ty t) with
    | .v (.string s), some .string => some (.itr key ver, H.set key { ver := ver, fz := false, blk := .siter s 0 })
    | _, _ => none
  | .next it true => match ev it with
    | .itr k r => match live H k r with
      | some { fz := false, blk := .siter s pos, .. } =>
        bif Nat.blt pos s.size then
          some (.tup [gB true, gI pos, .v (.int .i32 (Utf8.decode s pos).1)], H.set k { ver := r, fz := false, blk := .siter s (pos + (Utf8.decode s pos).2) })
        else some (.tup [gB false], H)
      | _ => none
    | _ => none
  | .extract t i => match ev t with
    | .tup vs => (vs[i]?).map (·, H)
    | _ => none
  | .call { callee := .builtin b, args, argTypes } => abuiltin C H key ver b argTypes.toList type (args.toList.map ev)
  | _ => none

/-- Operations of which the heap and the world are as they were. -/
def staysB : Builtin → Bool
  | .len | .cap | .min | .max => true
  | _ => false
def stays : Op → Bool
  | .move _ | .assign _ | .pick .. | .build .. | .unOp .. | .convert .. | .makeFunc .. | .field .. | .extract .. | .fieldAddr .. | .nilCheck _ | .makeInterface .. | .binOp .. | .index .. => true
  | .load .. | .indexAddr .. | .slice .. | .lookup .. => true
  | .call { callee := .builtin b, .. } => staysB b
  | _ => false

end Go.Vm
