/- DummyMoments: for every input, three vectors of integers, the law returns true and leaves its arguments as they were; its conditions: those of the given row alone, which lists four package-level variables as the program lays them. By an evaluator that is proved sound over the model. -/
import Derived.Test.YtliikgffjphhjaaGreatDoorS3Wit
import Derived.Test.YtliikgffjphhjaaGreatDoorS3LawM2
namespace Go.Vm.S3
open Go.Proofs Go.RowKit Go.ChangeShapes Go.WideShapes
open Go.Proofs.YtliikgffjphhjaaGreatDoor
set_option maxRecDepth 100000

theorem readsVec : Reads Tryz.prog 32 (fun v : V3 => [intA v.1, intA v.2.1, intA v.2.2]) (fun v => inI64 v.1 ∧ inI64 v.2.1 ∧ inI64 v.2.2) :=
  Reads.map (Reads.struct Tryz.underlying32 (by kernel_rfl) (by kernel_rfl) (.cons (Reads.int Tryz.underlying3) (.cons (Reads.int Tryz.underlying3) (.cons (Reads.int Tryz.underlying3) .nil)))) (fun v => (v.1, v.2.1, v.2.2.1)) (fun _ => rfl) (fun _ h => ⟨h.1, h.2.1, h.2.2.1⟩)
abbrev vecQ (v : V3) : Prop := inI64 v.1 ∧ inI64 v.2.1 ∧ inI64 v.2.2
theorem argVec : ArgOk Tryz.prog 32 (fun v : V3 => [intA v.1, intA v.2.1, intA v.2.2]) vA := ArgOk.agg Tryz.underlying32

theorem readsArgs : ReadsA Tryz.prog #[32, 32, 32].toList (V3 × V3 × V3 × Unit) (fun x => [vA x.1, vA x.2.1, vA x.2.2.1]) (fun x => vecQ x.1 ∧ vecQ x.2.1 ∧ vecQ x.2.2.1 ∧ True) :=
  .cons readsVec argVec (.cons readsVec argVec (.cons readsVec argVec .nil))
theorem contract {x : V3 × V3 × V3 × Unit} : Comp Tryz.prog globA 4 [vA x.1, vA x.2.1, vA x.2.2.1] (gB true) := moments_ok [vA x.1, vA x.2.1, vA x.2.2.1] (gB true) rfl
abbrev wargs : Array Value := #[.agg #[.int .i64 0, .int .i64 0, .int .i64 0], .agg #[.int .i64 0, .int .i64 0, .int .i64 0], .agg #[.int .i64 0, .int .i64 0, .int .i64 0]]
theorem reads (os : Os) {H : Type} (enc : TypeId × Value → H) : ∃ places, DataW.whole enc Tryz.prog ((laidWorld os).forCall (fun _ _ => 0) ⟨#[], wargs, []⟩).memory Tryz.f4.params.toList Rows.dummyMomentsSpec.vars false wargs.toList 8 =
    some ([.agg [.lit (.int .i64 0), .lit (.int .i64 0), .lit (.int .i64 0)], .agg [.lit (.int .i64 0), .lit (.int .i64 0), .lit (.int .i64 0)], .agg [.lit (.int .i64 0), .lit (.int .i64 0), .lit (.int .i64 0)]], [], places) :=
  ⟨[], by kernel_rfl⟩

theorem noInit : Tryz.checked.prog.inits.idxOf? 4 = none := by kernel_rfl
theorem w_vars (os : Os) : ((laidWorld os).forCall (fun _ _ => 0) ⟨#[], wargs, []⟩).variablesB Tryz.checked.prog = true := by kernel_rfl
theorem w_heap (os : Os) : ((((laidWorld os).forCall (fun _ _ => 0) ⟨#[], wargs, []⟩).heap.toList.drop Tryz.checked.prog.globals.size).take ((begin Tryz.checked.prog (fun _ _ => 0) default).world.heap.size - Tryz.checked.prog.globals.size)) =
    (begin Tryz.checked.prog (fun _ _ => 0) default).world.heap.toList.drop Tryz.checked.prog.globals.size := by kernel_rfl
theorem w_ok (os : Os) : Input.okWideB Tryz.checked.prog ((laidWorld os).forCall (fun _ _ => 0) ⟨#[], wargs, []⟩) 4 ⟨#[], wargs, []⟩ = true := by kernel_rfl
theorem w_sized (os : Os) {H : Type} (enc : TypeId × Value → H) : (OpenSpec.ofChange Rows.dummyMomentsSpec).bare.sizedB enc Tryz.prog Tryz.f4 false ((laidWorld os).forCall (fun _ _ => 0) ⟨#[], wargs, []⟩).memory wargs 8 = true := by kernel_rfl
theorem w_pre (os : Os) {H : Type} (enc : TypeId × Value → H) : (OpenSpec.ofChange Rows.dummyMomentsSpec).preRow enc Tryz.prog Tryz.f4 Rows.dummyMomentsRow.domain false Rows.dummyMomentsRow.laid ((laidWorld os).forCall (fun _ _ => 0) ⟨#[], wargs, []⟩).memory wargs := by
  obtain ⟨places, hx⟩ := reads os enc
  exact OpenSpec.preRow_of_cond 8 hx (by kernel_rfl) (fun k hk => by cases hk) (w_sized os enc) (laid_met os wargs)
theorem lifted (os : Os) (started : os.Started) (H : Type) (enc : TypeId × Value → H) (F : Stop.Interp) :
    ReturnsInHanded {} Tryz.checked os 4 .any ((OpenSpec.ofChange Rows.dummyMomentsSpec).preRow enc Tryz.prog Tryz.f4 Rows.dummyMomentsRow.domain false Rows.dummyMomentsRow.laid) (((OpenSpec.ofChange Rows.dummyMomentsSpec).at F).post enc Tryz.prog Tryz.f4 false true false false) := by
  refine returnsInHanded_of_row (C := Tryz.checked) (s := OpenSpec.ofChange Rows.dummyMomentsSpec) own started noInit Tryz.func4
    (witness_row_at (enc := enc) (C := Tryz.checked) false (laidWorld os) wargs rfl (w_vars os) (w_heap os) (w_ok os) (w_pre os enc)) ?_
  intro W base args ds gs before hval hW _ _ _ hL _ _
  refine law_contract (glob := globA) (s := Rows.dummyMomentsSpec) laidOut rfl (fun ds hd => ?_) (t4 := 4) (by kernel_rfl) Tryz.underlying4 (fun t ht => ?_) (by rw [Tryz.params4]; exact readsArgs) (fun x _ => contract) hval hW (glob_ok hL)
  · match ds, hd with
    | [d1, d2, d3], _ => rfl
  · have : t = 32 := by rw [Tryz.params4] at ht; simpa using ht
    subst this
    exact ⟨by kernel_rfl, of_decide_eq_true (by kernel_rfl)⟩
end Go.Vm.S3
