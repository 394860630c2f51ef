/- vectors that are checked. -/
import Derived.Test.YtliikgffjphhjaaGreatDoorS3A2
import Derived.Test.YtliikgffjphhjaaGreatDoorVmG
namespace Go.Vm.S3
open Go.Proofs Go.RowKit
set_option maxRecDepth 100000 in
theorem t111 (x y z m : Int) : evTreeD (CS S2) 60 111 [.agg [intA x, intA y, intA z], intA m] [] =
    (.done (some (.v (.int .i64 (firstM [withinM x (IntKind.i64.wrap (0 - m)) m, withinM y (IntKind.i64.wrap (0 - m)) m, withinM z (IntKind.i64.wrap (0 - m)) m]))))) := by kernel_rfl
set_option maxRecDepth 100000 in
theorem t35 (x y z m : Int) : evTreeD (CS S2) 60 35 [.agg [intA x, intA y, intA z], intA m] [] =
    (.done (some (.v (.int .i64 (firstM [withinM x (IntKind.i64.wrap (0 - m)) m, withinM y (IntKind.i64.wrap (0 - m)) m, withinM z (IntKind.i64.wrap (0 - m)) m]))))) := by kernel_rfl
abbrev V3 : Type := Int × Int × Int
def vecC : Cod V3 := aggC (RC.cons intC (RC.cons intC (RC.one intC)))
abbrev vA (v : V3) : AV := .agg [intA v.1, intA v.2.1, intA v.2.2]
def vecM (v : V3) (m : Int) : Int := firstM [withinM v.1 (IntKind.i64.wrap (0 - m)) m, withinM v.2.1 (IntKind.i64.wrap (0 - m)) m, withinM v.2.2 (IntKind.i64.wrap (0 - m)) m]
def vecG : List AV → Option AV := sp2 vecC intC fun v m => some (intA (vecM v m))
theorem vec_holds {f : FuncId} (h : ∀ (x y z m : Int), evTreeD (CS S2) 60 f [.agg [intA x, intA y, intA z], intA m] [] = .done (some (intA (vecM (x, y, z) m)))) : Holds f vecG := holds2 fun v m r hr => by
  simp only [Option.some.injEq] at hr; subst hr
  exact S2_ok.tr (h v.1 v.2.1 v.2.2 m) rfl
def S3 : Specs := (S2.set 111 vecG).set 35 vecG
theorem S3_ok : Ok S3 := (S2_ok.set (vec_holds t111)).set (vec_holds t35)
theorem eq3 {d : Nat} {t : TypeId} {f g h : Field} {ti : TypeId} {k : IntKind} (hu : Tryz.prog.underlying t = some (.struct #[f, g, h])) (hst : Tryz.prog.stoodInHeld t = false) (hi : Tryz.prog.underlying ti = some (.int k))
    (n1 : f.name ≠ "_") (n2 : g.name ≠ "_") (n3 : h.name ≠ "_") (t1 : f.type = ti) (t2 : g.type = ti) (t3 : h.type = ti)
    {x y z fx fy fz : Int} {xs ys : Array Value} (px : pureRun Tryz.prog (part ti xs f.offset) = some (.int k x)) (py : pureRun Tryz.prog (part ti xs g.offset) = some (.int k y)) (pz : pureRun Tryz.prog (part ti xs h.offset) = some (.int k z))
    (qx : pureRun Tryz.prog (part ti ys f.offset) = some (.int k fx)) (qy : pureRun Tryz.prog (part ti ys g.offset) = some (.int k fy)) (qz : pureRun Tryz.prog (part ti ys h.offset) = some (.int k fz)) :
    pureRun Tryz.prog (Op.equalIn (d + 2) t (.agg xs) (.agg ys)) = some (x == fx && (y == fy && z == fz)) := by
  have hfs : Tryz.prog.fieldsOf t = #[f, g, h] := by unfold Program.fieldsOf; rw [hu]
  rw [pureRun_struct (d + 1) t xs ys (by rw [hfs]; exact hu) hst, hfs]
  simp only [Op.eqFields, n1, n2, n3, ne_eq, not_false_eq_true, if_true, pureRun_bind, t1, t2, t3, px, py, pz, qx, qy, qz, Option.bind_some, pureRun_int d ti k k _ _ hi, pureRun_ite, pureRun_pure]
  cases x == fx <;> cases y == fy <;> cases z == fz <;> rfl

set_option maxRecDepth 100000 in
theorem vec_eq (S : Specs) (xo yo : Operand) (x y z fx fy fz : Int) : abin (CS S) .eql 32 xo yo (.agg [intA x, intA y, intA z]) (.agg [intA fx, intA fy, intA fz]) = some (gB (x == fx && (y == fy && z == fz))) := by
  have h : pureRun Tryz.prog (Op.equal 32 (.agg #[.int .i64 x, .int .i64 y, .int .i64 z]) (.agg #[.int .i64 fx, .int .i64 fy, .int .i64 fz])) = some (x == fx && (y == fy && z == fz)) :=
    eq3 (d := 9998) (ti := 3) (k := .i64) Tryz.underlying32 (by kernel_rfl) Tryz.underlying3 (by decide) (by decide) (by decide) rfl rfl rfl (by kernel_rfl) (by kernel_rfl) (by kernel_rfl) (by kernel_rfl) (by kernel_rfl) (by kernel_rfl)
  have e1 : ∀ (a b : Value), pureRun Tryz.prog (do eqGuard .eql 32 xo yo a b; binOp .eql 32 a b) = (pureRun Tryz.prog (eqGuard .eql 32 xo yo a b)).bind fun _ => pureRun Tryz.prog (binOp .eql 32 a b) := fun a b => pureRun_bind _ _
  have e2 : pureRun Tryz.prog (eqGuard .eql 32 xo yo (.agg #[.int .i64 x, .int .i64 y, .int .i64 z]) (.agg #[.int .i64 fx, .int .i64 fy, .int .i64 fz])) = some () := by kernel_rfl
  have e3 : pureRun Tryz.prog (binOp .eql 32 (.agg #[.int .i64 x, .int .i64 y, .int .i64 z]) (.agg #[.int .i64 fx, .int .i64 fy, .int .i64 fz])) = some (.bool (x == fx && (y == fy && z == fz))) := by
    have : binOp .eql 32 (.agg #[.int .i64 x, .int .i64 y, .int .i64 z]) (.agg #[.int .i64 fx, .int .i64 fy, .int .i64 fz]) = (do pure (.bool (← Op.equal 32 (.agg #[.int .i64 x, .int .i64 y, .int .i64 z]) (.agg #[.int .i64 fx, .int .i64 fy, .int .i64 fz])))) := rfl
    rw [this, pureRun_bind, h]; rfl
  have e4 : toV (.agg [intA x, intA y, intA z]) = some (.agg #[.int .i64 x, .int .i64 y, .int .i64 z]) := rfl
  have e5 : toV (.agg [intA fx, intA fy, intA fz]) = some (.agg #[.int .i64 fx, .int .i64 fy, .int .i64 fz]) := rfl
  unfold abin
  rw [e4, e5]
  show (pureRun Tryz.prog (do eqGuard .eql 32 xo yo _ _; binOp .eql 32 _ _)).bind _ = _
  rw [e1, e2, Option.bind_some, e3]
  rfl
end Go.Vm.S3
