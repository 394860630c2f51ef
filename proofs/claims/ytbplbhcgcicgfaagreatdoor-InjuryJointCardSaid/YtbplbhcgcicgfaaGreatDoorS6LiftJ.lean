/- InjuryJoint: for every input the law returns true and leaves its arguments as they were; its conditions: those of the given row alone, which lists four package-level variables as the program lays them. By an evaluator that is proved sound over the model. -/
import Derived.Test.YtbplbhcgcicgfaaGreatDoorS6Wit
import Derived.Test.YtbplbhcgcicgfaaGreatDoorVmH
import Derived.Test.YtbplbhcgcicgfaaGreatDoorS6Law8
namespace Go.Vm.S6
open Go.Proofs Go.RowKit Go.ChangeShapes Go.WideShapes
open Go.Proofs.YtbplbhcgcicgfaaGreatDoor
set_option maxRecDepth 100000

theorem readsI : Reads Tryz.prog 3 (fun n : Int => [intA n]) inI64 := Reads.int Tryz.underlying3
theorem readsB : Reads Tryz.prog 4 (fun b : Bool => [boolA b]) (fun _ => True) := Reads.bool Tryz.underlying4
theorem readsVa : Reads Tryz.prog 139 (fun v : Va => [intA v.1, intA v.2.1, boolA v.2.2.1, boolA v.2.2.2]) (fun _ => True) :=
  Reads.map (Reads.struct Tryz.underlying139 (by kernel_rfl) (by kernel_rfl) (.cons readsI (.cons readsI (.cons readsB (.cons readsB .nil))))) (fun v => (v.1, v.2.1, v.2.2.1, v.2.2.2.1)) (fun _ => rfl) (fun _ _ => trivial)
theorem readsVas : Reads Tryz.prog 88 (fun l : List Va => [.rsl 4 (l.map vaC.enc) false]) (fun l => l.length ≤ maxLen ∧ ∀ v ∈ l, True) := Reads.slice Tryz.underlying88 (by kernel_rfl) (by decide) readsVa ElOk.agg
theorem argVas : ArgOk Tryz.prog 88 (fun l : List Va => [.rsl 4 (l.map vaC.enc) false]) (fun l => .rsl 4 (l.map vaC.enc) false) := ArgOk.one (one_cell (by rw [Tryz.underlying88]; trivial))
theorem readsLim : Reads Tryz.prog 62 (fun p : Int × Int => [intA p.1, intA p.2]) (fun p => inI64 p.1 ∧ inI64 p.2) := Reads.arr2 Tryz.underlying62 (by kernel_rfl) (by kernel_rfl) readsI
theorem readsArgsJ : ReadsA Tryz.prog #[88, 88, 62].toList (List Va × List Va × (Int × Int) × Unit) (fun x => [.rsl 4 (x.1.map vaC.enc) false, .rsl 4 (x.2.1.map vaC.enc) false, p2A x.2.2.1]) (fun x => (x.1.length ≤ maxLen ∧ ∀ v ∈ x.1, True) ∧ (x.2.1.length ≤ maxLen ∧ ∀ v ∈ x.2.1, True) ∧ (inI64 x.2.2.1.1 ∧ inI64 x.2.2.1.2) ∧ True) :=
  .cons readsVas argVas (.cons readsVas argVas (.cons readsLim (ArgOk.arr Tryz.underlying62) .nil))
theorem contractJ {x : List Va × List Va × (Int × Int) × Unit} : Comp Tryz.prog globA 8 [.rsl 4 (x.1.map vaC.enc) false, .rsl 4 (x.2.1.map vaC.enc) false, p2A x.2.2.1] (gB true) :=
  h8 [slA vaC 4 x.1, slA vaC 4 x.2.1, p2A x.2.2.1] (gB true) (sp3_at (A := vasC) (B := vasC) (D := p2C) (F := fun _ _ _ => some (boolA true)) x.1 x.2.1 x.2.2.1)

theorem noInitJ : Tryz.checked.prog.inits.idxOf? 8 = none := by kernel_rfl
abbrev wargsJ : Array Value := #[.slice none 0 0, .slice none 0 0, .agg #[.int .i64 0, .int .i64 0]]
theorem readsJ (os : Os) {H : Type} (enc : TypeId × Value → H) : ∃ places, DataW.whole enc Tryz.prog ((laidWorld os).forCall (fun _ _ => 0) ⟨#[], wargsJ, []⟩).memory Tryz.f8.params.toList Rows.injuryJointSpec.vars false wargsJ.toList 8 =
    some ([.nil, .nil, .agg [.lit (.int .i64 0), .lit (.int .i64 0)]], [], places) :=
  ⟨[], by kernel_rfl⟩
theorem w_varsJ (os : Os) : ((laidWorld os).forCall (fun _ _ => 0) ⟨#[], wargsJ, []⟩).variablesB Tryz.checked.prog = true := by kernel_rfl
theorem w_heapJ (os : Os) : ((((laidWorld os).forCall (fun _ _ => 0) ⟨#[], wargsJ, []⟩).heap.toList.drop Tryz.checked.prog.globals.size).take ((begin Tryz.checked.prog (fun _ _ => 0) default).world.heap.size - Tryz.checked.prog.globals.size)) =
    (begin Tryz.checked.prog (fun _ _ => 0) default).world.heap.toList.drop Tryz.checked.prog.globals.size := by kernel_rfl
theorem w_okJ (os : Os) : Input.okWideB Tryz.checked.prog ((laidWorld os).forCall (fun _ _ => 0) ⟨#[], wargsJ, []⟩) 8 ⟨#[], wargsJ, []⟩ = true := by kernel_rfl
theorem w_sizedJ (os : Os) {H : Type} (enc : TypeId × Value → H) : (OpenSpec.ofChange Rows.injuryJointSpec).bare.sizedB enc Tryz.prog Tryz.f8 false ((laidWorld os).forCall (fun _ _ => 0) ⟨#[], wargsJ, []⟩).memory wargsJ 8 = true := by kernel_rfl
theorem w_preJ (os : Os) {H : Type} (enc : TypeId × Value → H) : (OpenSpec.ofChange Rows.injuryJointSpec).preRow enc Tryz.prog Tryz.f8 Rows.injuryJointRow.domain false Rows.injuryJointRow.laid ((laidWorld os).forCall (fun _ _ => 0) ⟨#[], wargsJ, []⟩).memory wargsJ := by
  obtain ⟨places, hx⟩ := readsJ os enc
  exact OpenSpec.preRow_of_cond 8 hx (by kernel_rfl) (fun k hk => by cases hk) (w_sizedJ os enc) (laid_met os wargsJ)
theorem liftedJ (os : Os) (started : os.Started) (H : Type) (enc : TypeId × Value → H) (F : Stop.Interp) :
    ReturnsInHanded {} Tryz.checked os 8 .any ((OpenSpec.ofChange Rows.injuryJointSpec).preRow enc Tryz.prog Tryz.f8 Rows.injuryJointRow.domain false Rows.injuryJointRow.laid) (((OpenSpec.ofChange Rows.injuryJointSpec).at F).post enc Tryz.prog Tryz.f8 false true false false) := by
  refine returnsInHanded_of_row (C := Tryz.checked) (s := OpenSpec.ofChange Rows.injuryJointSpec) own started noInitJ Tryz.func8
    (witness_row_at (enc := enc) (C := Tryz.checked) false (laidWorld os) wargsJ rfl (w_varsJ os) (w_heapJ os) (w_okJ os) (w_preJ os enc)) ?_
  intro W base args ds gs before hval hW _ _ _ hL _ _
  refine law_contract (glob := globA) (s := Rows.injuryJointSpec) laidOut rfl (fun ds hd => ?_) (t4 := 4) (by kernel_rfl) Tryz.underlying4 (fun t ht => ?_) (by rw [Tryz.params8]; exact readsArgsJ) (fun x hq => contractJ) hval hW (glob_ok hL)
  · match ds, hd with
    | [d1, d2, d3], _ => rfl
  · have : t = 88 ∨ t = 88 ∨ t = 62 := by rw [Tryz.params8] at ht; simpa using ht
    rcases this with rfl | rfl | rfl <;> exact ⟨by kernel_rfl, of_decide_eq_true (by kernel_rfl)⟩
end Go.Vm.S6
