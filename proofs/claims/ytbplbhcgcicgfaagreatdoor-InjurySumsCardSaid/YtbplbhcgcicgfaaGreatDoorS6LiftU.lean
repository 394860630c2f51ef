/- InjurySums: for every input the law returns true and leaves its arguments as they were; its conditions: those of the given row alone, which lists four package-level variables as the program lays them. By an evaluator that is proved sound over the model. -/
import Derived.Test.YtbplbhcgcicgfaaGreatDoorS6Wit
import Derived.Test.YtbplbhcgcicgfaaGreatDoorVmH
import Derived.Test.YtbplbhcgcicgfaaGreatDoorS6Law5
namespace Go.Vm.S6
open Go.Proofs Go.RowKit Go.ChangeShapes Go.WideShapes
open Go.Proofs.YtbplbhcgcicgfaaGreatDoor
set_option maxRecDepth 100000

theorem readsI : Reads Tryz.prog 3 (fun n : Int => [intA n]) inI64 := Reads.int Tryz.underlying3
theorem readsInts : Reads Tryz.prog 22 (fun l : List Int => [.rsl 1 (l.map intA) false]) (fun l => l.length ≤ maxLen ∧ ∀ v ∈ l, inI64 v) := Reads.slice Tryz.underlying22 (by kernel_rfl) (by decide) readsI (ElOk.one fun _ => rfl)
theorem argInts : ArgOk Tryz.prog 22 (fun l : List Int => [.rsl 1 (l.map intA) false]) (fun l => .rsl 1 (l.map intA) false) := ArgOk.one (one_cell (by rw [Tryz.underlying22]; trivial))
theorem argI : ArgOk Tryz.prog 3 (fun n : Int => [intA n]) intA := ArgOk.one (one_cell (by rw [Tryz.underlying3]; trivial))
theorem readsLim : Reads Tryz.prog 62 (fun p : Int × Int => [intA p.1, intA p.2]) (fun p => inI64 p.1 ∧ inI64 p.2) := Reads.arr2 Tryz.underlying62 (by kernel_rfl) (by kernel_rfl) readsI
theorem readsJt : Reads Tryz.prog 64 (fun v : Int × Int × Int => [intA v.1, intA v.2.1, intA v.2.2]) (fun _ => True) :=
  Reads.map (Reads.struct Tryz.underlying64 (by kernel_rfl) (by kernel_rfl) (.cons readsLim (.cons readsI .nil))) (fun v => (v.1.1, v.1.2, v.2.1)) (fun _ => rfl) (fun _ _ => trivial)
theorem readsArgsU : ReadsA Tryz.prog #[22, 22, 64].toList (List Int × List Int × (Int × Int × Int) × Unit) (fun x => [.rsl 1 (x.1.map intA) false, .rsl 1 (x.2.1.map intA) false, .agg [intA x.2.2.1.1, intA x.2.2.1.2.1, intA x.2.2.1.2.2]]) (fun x => (x.1.length ≤ maxLen ∧ ∀ v ∈ x.1, inI64 v) ∧ (x.2.1.length ≤ maxLen ∧ ∀ v ∈ x.2.1, inI64 v) ∧ True ∧ True) :=
  .cons readsInts argInts (.cons readsInts argInts (.cons readsJt (ArgOk.agg Tryz.underlying64) .nil))
theorem contractU {x : List Int × List Int × (Int × Int × Int) × Unit} : Comp Tryz.prog globA 5 [.rsl 1 (x.1.map intA) false, .rsl 1 (x.2.1.map intA) false, .agg [intA x.2.2.1.1, intA x.2.2.1.2.1, intA x.2.2.1.2.2]] (gB true) :=
  h5 [slA intC 1 x.1, slA intC 1 x.2.1, .agg [intA x.2.2.1.1, intA x.2.2.1.2.1, intA x.2.2.1.2.2]] (gB true) (sp3_at (A := intsC) (B := intsC) (D := jtC) (F := fun _ _ _ => some (boolA true)) x.1 x.2.1 x.2.2.1)

theorem noInitU : Tryz.checked.prog.inits.idxOf? 5 = none := by kernel_rfl
abbrev wargsU : Array Value := #[.slice none 0 0, .slice none 0 0, .agg #[.int .i64 0, .int .i64 0, .int .i64 0]]
theorem readsU (os : Os) {H : Type} (enc : TypeId × Value → H) : ∃ places, DataW.whole enc Tryz.prog ((laidWorld os).forCall (fun _ _ => 0) ⟨#[], wargsU, []⟩).memory Tryz.f5.params.toList Rows.injurySumsSpec.vars false wargsU.toList 8 =
    some ([.nil, .nil, .agg [.agg [.lit (.int .i64 0), .lit (.int .i64 0)], .lit (.int .i64 0)]], [], places) :=
  ⟨[], by kernel_rfl⟩
theorem w_varsU (os : Os) : ((laidWorld os).forCall (fun _ _ => 0) ⟨#[], wargsU, []⟩).variablesB Tryz.checked.prog = true := by kernel_rfl
theorem w_heapU (os : Os) : ((((laidWorld os).forCall (fun _ _ => 0) ⟨#[], wargsU, []⟩).heap.toList.drop Tryz.checked.prog.globals.size).take ((begin Tryz.checked.prog (fun _ _ => 0) default).world.heap.size - Tryz.checked.prog.globals.size)) =
    (begin Tryz.checked.prog (fun _ _ => 0) default).world.heap.toList.drop Tryz.checked.prog.globals.size := by kernel_rfl
theorem w_okU (os : Os) : Input.okWideB Tryz.checked.prog ((laidWorld os).forCall (fun _ _ => 0) ⟨#[], wargsU, []⟩) 5 ⟨#[], wargsU, []⟩ = true := by kernel_rfl
theorem w_sizedU (os : Os) {H : Type} (enc : TypeId × Value → H) : (OpenSpec.ofChange Rows.injurySumsSpec).bare.sizedB enc Tryz.prog Tryz.f5 false ((laidWorld os).forCall (fun _ _ => 0) ⟨#[], wargsU, []⟩).memory wargsU 8 = true := by kernel_rfl
theorem w_preU (os : Os) {H : Type} (enc : TypeId × Value → H) : (OpenSpec.ofChange Rows.injurySumsSpec).preRow enc Tryz.prog Tryz.f5 Rows.injurySumsRow.domain false Rows.injurySumsRow.laid ((laidWorld os).forCall (fun _ _ => 0) ⟨#[], wargsU, []⟩).memory wargsU := by
  obtain ⟨places, hx⟩ := readsU os enc
  exact OpenSpec.preRow_of_cond 8 hx (by kernel_rfl) (fun k hk => by cases hk) (w_sizedU os enc) (laid_met os wargsU)
theorem liftedU (os : Os) (started : os.Started) (H : Type) (enc : TypeId × Value → H) (F : Stop.Interp) :
    ReturnsInHanded {} Tryz.checked os 5 .any ((OpenSpec.ofChange Rows.injurySumsSpec).preRow enc Tryz.prog Tryz.f5 Rows.injurySumsRow.domain false Rows.injurySumsRow.laid) (((OpenSpec.ofChange Rows.injurySumsSpec).at F).post enc Tryz.prog Tryz.f5 false true false false) := by
  refine returnsInHanded_of_row (C := Tryz.checked) (s := OpenSpec.ofChange Rows.injurySumsSpec) own started noInitU Tryz.func5
    (witness_row_at (enc := enc) (C := Tryz.checked) false (laidWorld os) wargsU rfl (w_varsU os) (w_heapU os) (w_okU os) (w_preU os enc)) ?_
  intro W base args ds gs before hval hW _ _ _ hL _ _
  refine law_contract (glob := globA) (s := Rows.injurySumsSpec) laidOut rfl (fun ds hd => ?_) (t4 := 4) (by kernel_rfl) Tryz.underlying4 (fun t ht => ?_) (by rw [Tryz.params5]; exact readsArgsU) (fun x hq => contractU) hval hW (glob_ok hL)
  · match ds, hd with
    | [d1, d2, d3], _ => rfl
  · have : t = 22 ∨ t = 22 ∨ t = 64 := by rw [Tryz.params5] at ht; simpa using ht
    rcases this with rfl | rfl | rfl <;> exact ⟨by kernel_rfl, of_decide_eq_true (by kernel_rfl)⟩
end Go.Vm.S6
