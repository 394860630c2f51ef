/- InjuryLevels: for every input the law returns true and leaves its arguments as they were; its conditions: those of the given row alone, which lists four package-level variables as the program lays them. By an evaluator that is proved sound over the model. -/
import Derived.Test.YtbplbhcgcicgfaaGreatDoorS6Wit
import Derived.Test.YtbplbhcgcicgfaaGreatDoorS6Law4
namespace Go.Vm.S6
open Go.Proofs Go.RowKit Go.ChangeShapes Go.WideShapes
open Go.Proofs.YtbplbhcgcicgfaaGreatDoor
set_option maxRecDepth 100000

theorem readsI : Reads Tryz.prog 3 (fun n : Int => [intA n]) inI64 := Reads.int Tryz.underlying3
theorem readsInts : Reads Tryz.prog 22 (fun l : List Int => [.rsl 1 (l.map intA) false]) (fun l => l.length ≤ maxLen ∧ ∀ v ∈ l, inI64 v) := Reads.slice Tryz.underlying22 (by kernel_rfl) (by decide) readsI (ElOk.one fun _ => rfl)
theorem argInts : ArgOk Tryz.prog 22 (fun l : List Int => [.rsl 1 (l.map intA) false]) (fun l => .rsl 1 (l.map intA) false) := ArgOk.one (one_cell (by rw [Tryz.underlying22]; trivial))
theorem argI : ArgOk Tryz.prog 3 (fun n : Int => [intA n]) intA := ArgOk.one (one_cell (by rw [Tryz.underlying3]; trivial))
theorem readsArgsL : ReadsA Tryz.prog #[22, 3, 3].toList (List Int × Int × Int × Unit) (fun x => [.rsl 1 (x.1.map intA) false, intA x.2.1, intA x.2.2.1]) (fun x => (x.1.length ≤ maxLen ∧ ∀ v ∈ x.1, inI64 v) ∧ inI64 x.2.1 ∧ inI64 x.2.2.1 ∧ True) :=
  .cons readsInts argInts (.cons readsI argI (.cons readsI argI .nil))
theorem contractL {x : List Int × Int × Int × Unit} : Comp Tryz.prog globA 4 [.rsl 1 (x.1.map intA) false, intA x.2.1, intA x.2.2.1] (gB true) :=
  h4 [slA intC 1 x.1, intA x.2.1, intA x.2.2.1] (gB true) (sp3_at (A := intsC) (B := intC) (D := intC) (F := fun _ _ _ => some (boolA true)) x.1 x.2.1 x.2.2.1)

theorem noInitL : Tryz.checked.prog.inits.idxOf? 4 = none := by kernel_rfl
abbrev wargsL : Array Value := #[.slice none 0 0, .int .i64 0, .int .i64 0]
theorem readsL (os : Os) {H : Type} (enc : TypeId × Value → H) : ∃ places, DataW.whole enc Tryz.prog ((laidWorld os).forCall (fun _ _ => 0) ⟨#[], wargsL, []⟩).memory Tryz.f4.params.toList Rows.injuryLevelsSpec.vars false wargsL.toList 8 =
    some ([.nil, .lit (.int .i64 0), .lit (.int .i64 0)], [], places) :=
  ⟨[], by kernel_rfl⟩
theorem w_varsL (os : Os) : ((laidWorld os).forCall (fun _ _ => 0) ⟨#[], wargsL, []⟩).variablesB Tryz.checked.prog = true := by kernel_rfl
theorem w_heapL (os : Os) : ((((laidWorld os).forCall (fun _ _ => 0) ⟨#[], wargsL, []⟩).heap.toList.drop Tryz.checked.prog.globals.size).take ((begin Tryz.checked.prog (fun _ _ => 0) default).world.heap.size - Tryz.checked.prog.globals.size)) =
    (begin Tryz.checked.prog (fun _ _ => 0) default).world.heap.toList.drop Tryz.checked.prog.globals.size := by kernel_rfl
theorem w_okL (os : Os) : Input.okWideB Tryz.checked.prog ((laidWorld os).forCall (fun _ _ => 0) ⟨#[], wargsL, []⟩) 4 ⟨#[], wargsL, []⟩ = true := by kernel_rfl
theorem w_sizedL (os : Os) {H : Type} (enc : TypeId × Value → H) : (OpenSpec.ofChange Rows.injuryLevelsSpec).bare.sizedB enc Tryz.prog Tryz.f4 false ((laidWorld os).forCall (fun _ _ => 0) ⟨#[], wargsL, []⟩).memory wargsL 8 = true := by kernel_rfl
theorem w_preL (os : Os) {H : Type} (enc : TypeId × Value → H) : (OpenSpec.ofChange Rows.injuryLevelsSpec).preRow enc Tryz.prog Tryz.f4 Rows.injuryLevelsRow.domain false Rows.injuryLevelsRow.laid ((laidWorld os).forCall (fun _ _ => 0) ⟨#[], wargsL, []⟩).memory wargsL := by
  obtain ⟨places, hx⟩ := readsL os enc
  exact OpenSpec.preRow_of_cond 8 hx (by kernel_rfl) (fun k hk => by cases hk) (w_sizedL os enc) (laid_met os wargsL)
theorem liftedL (os : Os) (started : os.Started) (H : Type) (enc : TypeId × Value → H) (F : Stop.Interp) :
    ReturnsInHanded {} Tryz.checked os 4 .any ((OpenSpec.ofChange Rows.injuryLevelsSpec).preRow enc Tryz.prog Tryz.f4 Rows.injuryLevelsRow.domain false Rows.injuryLevelsRow.laid) (((OpenSpec.ofChange Rows.injuryLevelsSpec).at F).post enc Tryz.prog Tryz.f4 false true false false) := by
  refine returnsInHanded_of_row (C := Tryz.checked) (s := OpenSpec.ofChange Rows.injuryLevelsSpec) own started noInitL Tryz.func4
    (witness_row_at (enc := enc) (C := Tryz.checked) false (laidWorld os) wargsL rfl (w_varsL os) (w_heapL os) (w_okL os) (w_preL os enc)) ?_
  intro W base args ds gs before hval hW _ _ _ hL _ _
  refine law_contract (glob := globA) (s := Rows.injuryLevelsSpec) laidOut rfl (fun ds hd => ?_) (t4 := 4) (by kernel_rfl) Tryz.underlying4 (fun t ht => ?_) (by rw [Tryz.params4]; exact readsArgsL) (fun x hq => contractL) hval hW (glob_ok hL)
  · match ds, hd with
    | [d1, d2, d3], _ => rfl
  · have : t = 22 ∨ t = 3 ∨ t = 3 := by rw [Tryz.params4] at ht; simpa using ht
    rcases this with rfl | rfl | rfl <;> exact ⟨by kernel_rfl, of_decide_eq_true (by kernel_rfl)⟩
end Go.Vm.S6
