/- InjuryBounds: for every input the law returns true and leaves its arguments as they were; its conditions: those of the given row alone, which lists four package-level variables as the program lays them. By an evaluator that is proved sound over the model. -/
import Derived.Test.YtbplbhcgcicgfaaGreatDoorS6Wit
import Derived.Test.YtbplbhcgcicgfaaGreatDoorVmH
import Derived.Test.YtbplbhcgcicgfaaGreatDoorS6Law7
namespace Go.Vm.S6
open Go.Proofs Go.RowKit Go.ChangeShapes Go.WideShapes
open Go.Proofs.YtbplbhcgcicgfaaGreatDoor
set_option maxRecDepth 100000

theorem readsI : Reads Tryz.prog 3 (fun n : Int => [intA n]) inI64 := Reads.int Tryz.underlying3
theorem readsB : Reads Tryz.prog 4 (fun b : Bool => [boolA b]) (fun _ => True) := Reads.bool Tryz.underlying4
theorem readsVa : Reads Tryz.prog 139 (fun v : Va => [intA v.1, intA v.2.1, boolA v.2.2.1, boolA v.2.2.2]) (fun _ => True) :=
  Reads.map (Reads.struct Tryz.underlying139 (by kernel_rfl) (by kernel_rfl) (.cons readsI (.cons readsI (.cons readsB (.cons readsB .nil))))) (fun v => (v.1, v.2.1, v.2.2.1, v.2.2.2.1)) (fun _ => rfl) (fun _ _ => trivial)
theorem readsVas : Reads Tryz.prog 88 (fun l : List Va => [.rsl 4 (l.map vaC.enc) false]) (fun l => l.length ≤ maxLen ∧ ∀ v ∈ l, True) := Reads.slice Tryz.underlying88 (by kernel_rfl) (by decide) readsVa ElOk.agg
theorem argVas : ArgOk Tryz.prog 88 (fun l : List Va => [.rsl 4 (l.map vaC.enc) false]) (fun l => .rsl 4 (l.map vaC.enc) false) := ArgOk.one (one_cell (by rw [Tryz.underlying88]; trivial))
theorem argI : ArgOk Tryz.prog 3 (fun n : Int => [intA n]) intA := ArgOk.one (one_cell (by rw [Tryz.underlying3]; trivial))
theorem readsIv : Reads Tryz.prog 26 (fun v : Int × Int => [intA v.1, intA v.2]) (fun _ => True) :=
  Reads.map (Reads.struct Tryz.underlying26 (by kernel_rfl) (by kernel_rfl) (.cons readsI (.cons readsI .nil))) (fun v => (v.1, v.2.1)) (fun _ => rfl) (fun _ _ => trivial)
theorem readsArgsB : ReadsA Tryz.prog #[88, 26, 3].toList (List Va × (Int × Int) × Int × Unit) (fun x => [.rsl 4 (x.1.map vaC.enc) false, p2A x.2.1, intA x.2.2.1]) (fun x => (x.1.length ≤ maxLen ∧ ∀ v ∈ x.1, True) ∧ True ∧ inI64 x.2.2.1 ∧ True) :=
  .cons readsVas argVas (.cons readsIv (ArgOk.agg Tryz.underlying26) (.cons readsI argI .nil))
theorem contractB {x : List Va × (Int × Int) × Int × Unit} : Comp Tryz.prog globA 7 [.rsl 4 (x.1.map vaC.enc) false, p2A x.2.1, intA x.2.2.1] (gB true) :=
  h7 [slA vaC 4 x.1, p2A x.2.1, intA x.2.2.1] (gB true) (sp3_at (A := vasC) (B := p2C) (D := intC) (F := fun _ _ _ => some (boolA true)) x.1 x.2.1 x.2.2.1)

theorem noInitN : Tryz.checked.prog.inits.idxOf? 7 = none := by kernel_rfl
abbrev wargsN : Array Value := #[.slice none 0 0, .agg #[.int .i64 0, .int .i64 0], .int .i64 0]
theorem readsN (os : Os) {H : Type} (enc : TypeId × Value → H) : ∃ places, DataW.whole enc Tryz.prog ((laidWorld os).forCall (fun _ _ => 0) ⟨#[], wargsN, []⟩).memory Tryz.f7.params.toList Rows.injuryBoundsSpec.vars false wargsN.toList 8 =
    some ([.nil, .agg [.lit (.int .i64 0), .lit (.int .i64 0)], .lit (.int .i64 0)], [], places) :=
  ⟨[], by kernel_rfl⟩
theorem w_varsN (os : Os) : ((laidWorld os).forCall (fun _ _ => 0) ⟨#[], wargsN, []⟩).variablesB Tryz.checked.prog = true := by kernel_rfl
theorem w_heapN (os : Os) : ((((laidWorld os).forCall (fun _ _ => 0) ⟨#[], wargsN, []⟩).heap.toList.drop Tryz.checked.prog.globals.size).take ((begin Tryz.checked.prog (fun _ _ => 0) default).world.heap.size - Tryz.checked.prog.globals.size)) =
    (begin Tryz.checked.prog (fun _ _ => 0) default).world.heap.toList.drop Tryz.checked.prog.globals.size := by kernel_rfl
theorem w_okN (os : Os) : Input.okWideB Tryz.checked.prog ((laidWorld os).forCall (fun _ _ => 0) ⟨#[], wargsN, []⟩) 7 ⟨#[], wargsN, []⟩ = true := by kernel_rfl
theorem w_sizedN (os : Os) {H : Type} (enc : TypeId × Value → H) : (OpenSpec.ofChange Rows.injuryBoundsSpec).bare.sizedB enc Tryz.prog Tryz.f7 false ((laidWorld os).forCall (fun _ _ => 0) ⟨#[], wargsN, []⟩).memory wargsN 8 = true := by kernel_rfl
theorem w_preN (os : Os) {H : Type} (enc : TypeId × Value → H) : (OpenSpec.ofChange Rows.injuryBoundsSpec).preRow enc Tryz.prog Tryz.f7 Rows.injuryBoundsRow.domain false Rows.injuryBoundsRow.laid ((laidWorld os).forCall (fun _ _ => 0) ⟨#[], wargsN, []⟩).memory wargsN := by
  obtain ⟨places, hx⟩ := readsN os enc
  exact OpenSpec.preRow_of_cond 8 hx (by kernel_rfl) (fun k hk => by cases hk) (w_sizedN os enc) (laid_met os wargsN)
theorem liftedN (os : Os) (started : os.Started) (H : Type) (enc : TypeId × Value → H) (F : Stop.Interp) :
    ReturnsInHanded {} Tryz.checked os 7 .any ((OpenSpec.ofChange Rows.injuryBoundsSpec).preRow enc Tryz.prog Tryz.f7 Rows.injuryBoundsRow.domain false Rows.injuryBoundsRow.laid) (((OpenSpec.ofChange Rows.injuryBoundsSpec).at F).post enc Tryz.prog Tryz.f7 false true false false) := by
  refine returnsInHanded_of_row (C := Tryz.checked) (s := OpenSpec.ofChange Rows.injuryBoundsSpec) own started noInitN Tryz.func7
    (witness_row_at (enc := enc) (C := Tryz.checked) false (laidWorld os) wargsN rfl (w_varsN os) (w_heapN os) (w_okN os) (w_preN os enc)) ?_
  intro W base args ds gs before hval hW _ _ _ hL _ _
  refine law_contract (glob := globA) (s := Rows.injuryBoundsSpec) laidOut rfl (fun ds hd => ?_) (t4 := 4) (by kernel_rfl) Tryz.underlying4 (fun t ht => ?_) (by rw [Tryz.params7]; exact readsArgsB) (fun x hq => contractB) hval hW (glob_ok hL)
  · match ds, hd with
    | [d1, d2, d3], _ => rfl
  · have : t = 88 ∨ t = 26 ∨ t = 3 := by rw [Tryz.params7] at ht; simpa using ht
    rcases this with rfl | rfl | rfl <;> exact ⟨by kernel_rfl, of_decide_eq_true (by kernel_rfl)⟩
end Go.Vm.S6
