/- A small evaluator over abstract values: code, calls, ranges over functions. -/
import Derived.Test.YtliikgffjphhjaaGreatDoorVmOps
namespace Go.Vm

inductive Ex where
  | nrm
  | exit (id : Nat)
  | ret

def evA (C : Cx) (T : Tr AV) : Operand → AV
  | .tmp t => match T.get t with | some a => a | none => .bad
  | .const v => ofV v
  | .global g => match C.glob g with | some cs => .rptr cs | none => .bad
  | .func f => .fn (.func f) [] []

/-- Is the operation carried out? -/
def wantA (ops : Array Oper) (T : Tr AV) (o : Oper) : Option Bool :=
  match o.guard with
  | none => some true
  | some (j, want) => match (ops[j]?).bind (·.dst) with
    | none => some false
    | some d => match T.get d with
      | some (.v (.bool b)) => some (b == want)
      | some (.v _) => some false
      | _ => none

def putA (nt : Nat) (T : Tr AV) (dst : Option Tmp) (a : AV) : Option (Tr AV) :=
  match dst with
  | none => some T
  | some d => bif Nat.blt d nt then some (T.set d a) else none

abbrev CallF := AV → List AV → St → Option (AV × St)

def evO (cl : CallF) (C : Cx) (fb nt : Nat) (ops : Array Oper) (o : Oper) (st : St) : Option St :=
  match wantA ops st.T o with
  | none => none
  | some false => (putA nt st.T o.dst (.v (.tuple #[]))).map fun T => { st with T := T }
  | some true =>
    match o.op with
    | .call { callee := .value f, args, .. } =>
      match cl (evA C st.T f) (args.toList.map (evA C st.T)) st with
      | none => none
      | some (r, s1) => (putA nt st.T o.dst r).map fun T => { s1 with T := T }
    | op =>
      match aop C (evA C st.T) st.H (fb + o.dst.getD 0) st.nv o.type op with
      | none => none
      | some (r, H) => (putA nt st.T o.dst r).map fun T => { st with T := T, H := H, nv := st.nv + 1 }

def evOps (cl : CallF) (C : Cx) (fb nt : Nat) (ops : Array Oper) : List Oper → St → Option St
  | [], st => some st
  | o :: os, st => match evO cl C fb nt ops o st with
    | none => none
    | some s1 => evOps cl C fb nt ops os s1

/-! ### A region that draws its order of evaluation -/
abbrev CallK := AV → List AV → Tr Ent → Option AV

def closedA : Nat → AV → Bool
  | 0, _ => false
  | n + 1, a => match a with
    | .v _ | .rptr _ | .rsl .. | .rmp .. => true
    | .agg cs | .tup cs => cs.all (closedA n)
    | .fn _ as bs => as.all (closedA n) && bs.all (closedA n)
    | .ifc _ x => closedA n x
    | _ => false
def closed (a : AV) : Bool := closedA 20 a

def tcKey (fb : Nat) (T0 : Tr AV) : Tc → Option Nat
  | .slot t => some (fb + t)
  | .at_ t => match T0.get t with
    | some (.ptr k _ _) => some k
    | _ => none
  | .all => none

def tcKeys (fb : Nat) (T0 : Tr AV) : List Tc → Option (List Nat)
  | [] => some []
  | c :: cs => match tcKey fb T0 c, tcKeys fb T0 cs with
    | some k, some ks => some (k :: ks)
    | _, _ => none

def hide (H : Tr Ent) : List Nat → Tr Ent
  | [] => H
  | k :: ks => (hide H ks).del k

def memN (k : Nat) : List Nat → Bool
  | [] => false
  | j :: js => bif Nat.beq k j then true else memN k js

/-- The block that the operation may turn is none of those that others, not ordered to it, may turn. -/
def ownFree (fb : Nat) (T0 : Tr AV) (i : DI) (ks : List Nat) : Bool :=
  match i.cls with
  | 2 => (match tcKey fb T0 i.own with | some k => !memN k ks | none => false)
  | 3 => (match ks with | [] => true | _ => false)
  | _ => true

/-- Does the operation turn no other block than that at k? -/
def ownOk (ev : Operand → AV) (key k : Nat) : Op → Bool
  | .alloc _ | .box .. | .makeMap _ none | .makeSlice .. | .range .. => Nat.beq k key
  | .store _ a _ => (match ev a with | .ptr k' _ _ => Nat.beq k k' | _ => false)
  | .call { callee := .builtin .append, args, .. } => Nat.beq k key && (match args.toList with | s :: _ => (match ev s with | .v _ | .rsl .. => true | _ => false) | [] => false)
  | _ => false

def evDW (clK : CallK) (C : Cx) (fb nt : Nat) (T0 : Tr AV) (ver : Nat) (o : Oper) (i : DI) (ks : List Nat) (T : Tr AV) (H : Tr Ent) : Option (Tr AV × Tr Ent) :=
  match i.cls with
  | 0 => bif stays o.op then
      match aop C (evA C T) .leaf (fb + o.dst.getD 0) ver o.type o.op with
      | none => none
      | some (r, _) => (putA nt T o.dst r).map (·, H)
    else none
  | 1 => match o.op with
    | .call { callee := .value f, args, .. } => match clK (evA C T f) (args.toList.map (evA C T)) (hide H ks) with
      | none => none
      | some r => (putA nt T o.dst r).map (·, H)
    | .buildSlice .. => match aop C (evA C T) .leaf (fb + o.dst.getD 0) ver o.type o.op with
      | none => none
      | some (r, _) => (putA nt T o.dst r).map (·, H)
    | _ => bif stays o.op then
        match aop C (evA C T) (hide H ks) (fb + o.dst.getD 0) ver o.type o.op with
        | none => none
        | some (r, _) => (putA nt T o.dst r).map (·, H)
      else none
  | 2 => match tcKey fb T0 i.own with
    | none => none
    | some k => bif ownOk (evA C T) (fb + o.dst.getD 0) k o.op then
        match aop C (evA C T) (hide H ks) (fb + o.dst.getD 0) ver o.type o.op with
        | none => none
        | some (r, V) => match V.get k with
          | none => none
          | some e => (putA nt T o.dst r).map (·, H.set k e)
      else none
  | 3 => match aop C (evA C T) H (fb + o.dst.getD 0) ver o.type o.op with
    | none => none
    | some (r, H') => (putA nt T o.dst r).map (·, H')
  | _ => none

def evDO (clK : CallK) (C : Cx) (fb nt : Nat) (ops : Array Oper) (T0 : Tr AV) (ver : Nat) (o : Oper) (i : DI) (T : Tr AV) (H : Tr Ent) : Option (Tr AV × Tr Ent) :=
  match tcKeys fb T0 i.un with
  | none => none
  | some ks =>
    bif ownFree fb T0 i ks then
      match wantA ops T o with
      | none => none
      | some false => (putA nt T o.dst (.v (.tuple #[]))).map (·, H)
      | some true => evDW clK C fb nt T0 ver o i ks T H
    else none

def evDs (clK : CallK) (C : Cx) (fb nt : Nat) (ops : Array Oper) (T0 : Tr AV) : Nat → List Oper → List DI → Tr AV → Tr Ent → Option (Tr AV × Tr Ent)
  | _, [], [], T, H => some (T, H)
  | v, o :: os, i :: is, T, H => match evDO clK C fb nt ops T0 v o i T H with
    | none => none
    | some (T1, H1) => evDs clK C fb nt ops T0 (v + 1) os is T1 H1
  | _, _, _, _, _ => none

/-- Known to be written no more: what these slots lead to. -/
def stFz : List Tmp → Tr AV → Tr Ent → Option (Tr AV × Tr Ent)
  | [], T, H => some (T, H)
  | t :: ts, T, H => match T.get t with
    | none => stFz ts T H
    | some x => match frz H x with
      | none => none
      | some (x', H') => stFz ts (T.set t x') H'

def iter (f : St → Option (Ex × St)) : Nat → St → Option (Ex × St)
  | 0, _ => none
  | n + 1, st => match f st with
    | some (.nrm, s1) => iter f n s1
    | r => r

def evCode (cl : CallF) (clK : CallK) (C : Cx) (fid fb nt : Nat) (rd : Bool) : Code → St → Option (Ex × St)
  | .skip, st => some (.nrm, st)
  | .label _, st => some (.nrm, st)
  | .region id ops dr, st =>
    bif dr then
      match C.draw fid id with
      | none => none
      | some is => match stFz (C.pre fid id) st.T st.H with
        | none => none
        | some (T0, H0) => match evDs clK C fb nt ops T0 st.nv ops.toList is T0 H0 with
          | none => none
          | some (T, H) => some (.nrm, { st with T := T, H := H, nv := st.nv + ops.size })
    else (evOps cl C fb nt ops ops.toList st).map fun s => (.nrm, s)
  | .seq a b, st => match evCode cl clK C fid fb nt rd a st with
    | some (.nrm, s1) => evCode cl clK C fid fb nt rd b s1
    | r => r
  | .cond c a b, st => match evA C st.T c with
    | .v (.bool t) => bif t then evCode cl clK C fid fb nt rd a st else evCode cl clK C fid fb nt rd b st
    | _ => none
  | .block id c, st => match evCode cl clK C fid fb nt rd c st with
    | some (.exit i, s1) => bif Nat.beq i id then some (.nrm, s1) else some (.exit i, s1)
    | r => r
  | .loop c, st => iter (evCode cl clK C fid fb nt rd c) C.fuel st
  | .exit id, st => some (.exit id, st)
  | .ret, st => some (.ret, st)
  | .scope c, st => bif rd then none else evCode cl clK C fid fb nt rd c st
  | .rangeFunc f ps asg body, st =>
    bif rd then none else
    match ps.toList, evA C st.T f with
    | p :: _, .fn g as bs =>
      match cl (.fn g as bs) [.yld (fb + p) st.nv] { st with H := st.H.set (fb + p) { ver := st.nv, fz := false, blk := .loop fid fb nt st.T ps.toList asg body none }, nv := st.nv + 1 } with
      | none => none
      | some (_, s1) => match live s1.H (fb + p) st.nv with
        | some { fz := false, blk := .loop _ _ _ _ _ _ _ pend, .. } =>
          match pend with
          | none => some (.nrm, { s1 with T := st.T, H := s1.H.del (fb + p) })
          | some (some .ret) => some (.ret, { s1 with T := st.T, H := s1.H.del (fb + p) })
          | some (some (.exit i)) => some (.exit i, { s1 with T := st.T, H := s1.H.del (fb + p) })
          | _ => none
        | _ => none
    | _, _ => none
  | .goto _, _ => none
  | .refuse _, _ => none

def resL (C : Cx) (s : St) : List ResultVar → Option (List AV)
  | [] => some []
  | .tmp t :: rs => match resL C s rs with
    | some l => some (evA C s.T (.tmp t) :: l)
    | none => none
  | .cell a t :: rs => match aload C s.H t (evA C s.T (.tmp a)), resL C s rs with
    | some x, some l => some (x :: l)
    | _, _ => none

def resA (C : Cx) (s : St) (rs : List ResultVar) : Option AV :=
  match resL C s rs with
  | some [x] => some x
  | some l => some (.tup l)
  | none => none

def initT : Nat → List AV → Tr AV → Tr AV
  | _, [], T => T
  | i, a :: as, T => initT (i + 1) as (T.set i a)

def setPs : List Tmp → List AV → Tr AV → Nat → Option (Tr AV)
  | [], [], T, _ => some T
  | t :: ts, a :: as, T, nt => bif Nat.blt t nt then setPs ts as (T.set t a) nt else none
  | _, _, _, _ => none

/-- A value in which no block is met. -/
def pureA : AV → Bool
  | .v _ => true
  | .agg cs => (cellsV cs).isSome
  | .tup cs => (toVL cs).isSome
  | _ => false

def body (C : Cx) (cl : CallF) (clK : CallK) (f fb : Nat) (as : List AV) (H : Tr Ent) (nv nf : Nat) : Option (AV × St) :=
  match C.fn f with
  | none => none
  | some fi =>
    bif !Nat.ble as.length fi.ntmps then none else
    match evCode cl clK C f fb fi.ntmps false fi.body { T := initT 0 as .leaf, H := H, nv := nv, nf := nf + fi.ntmps } with
    | some (.nrm, s1) => (resA C s1 fi.results).map fun r => (r, s1)
    | some (.ret, s1) => (resA C s1 fi.results).map fun r => (r, s1)
    | _ => none

/-- A call from trees to a tree. -/
def tree (C : Cx) (cl : CallF) (clK : CallK) (f : FuncId) (as : List AV) : Option AV :=
  match body C cl clK f 0 as .leaf 0 0 with
  | none => none
  | some (r, s1) => (frz s1.H r).map (·.1)

/-- A function's result from trees, by its specification or by its code. -/
def flatCall (C : Cx) (cl : CallF) (clK : CallK) (f : FuncId) (as : List AV) : Option AV :=
  match C.mode f with
  | .spec => C.spec f as
  | .tree => tree C cl clK f as
  | .inl => none

/-- A call whose result holds no block of the caller's. -/
def callK (C : Cx) (cl : CallF) (clK : CallK) (callee : AV) (args : List AV) (H : Tr Ent) : Option AV :=
  match callee with
  | .fn (.func f) first cap =>
    bif (first ++ args ++ cap).all closed then flatCall C cl clK f (first ++ args ++ cap)
    else match frzL H (first ++ args ++ cap) with
    | none => none
    | some (as, _) => match flatCall C cl clK f as with
      | none => none
      | some r => bif pureA r then some r else none
  | _ => none

def callF (C : Cx) (cl : CallF) (clK : CallK) (callee : AV) (args : List AV) (st : St) : Option (AV × St) :=
  match callee with
  | .fn (.func f) first cap =>
    match C.mode f with
    | .inl => match body C cl clK f st.nf (first ++ args ++ cap) st.H st.nv st.nf with
      | none => none
      | some (r, s1) => some (r, { s1 with T := st.T })
    | _ => match frzL st.H (first ++ args ++ cap) with
      | none => none
      | some (as, H) => match flatCall C cl clK f as with
        | none => none
        | some r => some (r, bif pureA r then st else { st with H := H })
  | .yld k r => match live st.H k r with
    | some { fz := false, blk := .loop fid fb nt T ps asg bd none, .. } =>
      match setPs ps args T nt with
      | none => none
      | some T1 => match evCode cl clK C fid fb nt true asg { st with T := T1 } with
        | some (.nrm, s1) => match live s1.H k r with
          | some { fz := false, blk := .loop fid' fb' nt' T' ps' asg' bd' none, .. } =>
            match evCode cl clK C fid fb nt true bd { s1 with H := s1.H.set k { ver := r, fz := false, blk := .loop fid' fb' nt' T' ps' asg' bd' (some none) } } with
            | none => none
            | some (e, s2) =>
              match live s2.H k r with
              | some { fz := false, blk := .loop fid2 fb2 nt2 T2 ps2 asg2 bd2 (some none), .. } =>
                match e with
                | .nrm => some (gB true, { s2 with T := st.T, H := s2.H.set k { ver := r, fz := false, blk := .loop fid2 fb2 nt2 T2 ps2 asg2 bd2 none } })
                | .exit i => some (gB false, { s2 with T := st.T, H := s2.H.set k { ver := r, fz := false, blk := .loop fid2 fb2 nt2 T2 ps2 asg2 bd2 (some (some (.exit i))) } })
                | .ret => some (gB false, { s2 with T := st.T, H := s2.H.set k { ver := r, fz := false, blk := .loop fid2 fb2 nt2 T2 ps2 asg2 bd2 (some (some .ret)) } })
              | _ => none
          | _ => none
        | _ => none
    | _ => none
  | _ => none

mutual
def run (C : Cx) : Nat → CallF
  | 0, _, _, _ => none
  | d + 1, callee, args, st => callF C (run C d) (runK C d) callee args st
def runK (C : Cx) : Nat → CallK
  | 0, _, _, _ => none
  | d + 1, callee, args, H => callK C (run C d) (runK C d) callee args H
end

/-- A call from trees to a tree, all calls within by the evaluator. -/
def evTree (C : Cx) (d : Nat) (f : FuncId) (as : List AV) : Option AV := tree C (run C d) (runK C d) f as

end Go.Vm
