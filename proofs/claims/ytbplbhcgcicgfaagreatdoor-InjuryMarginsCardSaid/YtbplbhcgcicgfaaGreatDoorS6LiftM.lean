/- InjuryMargins: for every input the law returns true and leaves its arguments as they were; its conditions: those of the given row alone, which lists four package-level variables as the program lays them. By an evaluator that is proved sound over the model. -/
import Derived.Test.YtbplbhcgcicgfaaGreatDoorS6Wit
import Derived.Test.YtbplbhcgcicgfaaGreatDoorVmH
import Derived.Test.YtbplbhcgcicgfaaGreatDoorS6Law9
namespace Go.Vm.S6
open Go.Proofs Go.RowKit Go.ChangeShapes Go.WideShapes
open Go.Proofs.YtbplbhcgcicgfaaGreatDoor
set_option maxRecDepth 100000

theorem readsI : Reads Tryz.prog 3 (fun n : Int => [intA n]) inI64 := Reads.int Tryz.underlying3
theorem readsB : Reads Tryz.prog 4 (fun b : Bool => [boolA b]) (fun _ => True) := Reads.bool Tryz.underlying4
theorem readsRat : Reads Tryz.prog 28 (fun v : Int × Int => [intA v.1, intA v.2]) (fun _ => True) :=
  Reads.map (Reads.struct Tryz.underlying28 (by kernel_rfl) (by kernel_rfl) (.cons readsI (.cons readsI .nil))) (fun v => (v.1, v.2.1)) (fun _ => rfl) (fun _ _ => trivial)
theorem readsStep : Reads Tryz.prog 158 (fun v : Int × Int × Int => [intA v.1, intA v.2.1, intA v.2.2]) (fun _ => True) :=
  Reads.map (Reads.struct Tryz.underlying158 (by kernel_rfl) (by kernel_rfl) (.cons readsRat (.cons readsI .nil))) (fun v => (v.1.1, v.1.2, v.2.1)) (fun _ => rfl) (fun _ _ => trivial)
theorem readsBd : Reads Tryz.prog 98 (fun v : Int × Int × Int × Int × Bool => [intA v.1, intA v.2.1, intA v.2.2.1, intA v.2.2.2.1, boolA v.2.2.2.2]) (fun _ => True) :=
  Reads.map (Reads.struct Tryz.underlying98 (by kernel_rfl) (by kernel_rfl) (.cons readsRat (.cons readsRat (.cons readsB .nil)))) (fun v => (v.1.1, v.1.2, v.2.1.1, v.2.1.2, v.2.2.1)) (fun _ => rfl) (fun _ _ => trivial)
theorem readsSteps : Reads Tryz.prog 107 (fun l : List (Int × Int × Int) => [.rsl 3 (l.map stepC.enc) false]) (fun l => l.length ≤ maxLen ∧ ∀ v ∈ l, True) := Reads.slice Tryz.underlying107 (by kernel_rfl) (by decide) readsStep ElOk.agg
theorem readsArgsM : ReadsA Tryz.prog #[107, 98, 28].toList (List (Int × Int × Int) × (Int × Int × Int × Int × Bool) × (Int × Int) × Unit) (fun x => [.rsl 3 (x.1.map stepC.enc) false, bdC.enc x.2.1, p2A x.2.2.1]) (fun x => (x.1.length ≤ maxLen ∧ ∀ v ∈ x.1, True) ∧ True ∧ True ∧ True) :=
  .cons readsSteps (ArgOk.one (one_cell (by rw [Tryz.underlying107]; trivial))) (.cons readsBd (ArgOk.agg Tryz.underlying98) (.cons readsRat (ArgOk.agg Tryz.underlying28) .nil))
theorem contractM {x : List (Int × Int × Int) × (Int × Int × Int × Int × Bool) × (Int × Int) × Unit} : Comp Tryz.prog globA 9 [.rsl 3 (x.1.map stepC.enc) false, bdC.enc x.2.1, p2A x.2.2.1] (gB true) :=
  h9 [slA stepC 3 x.1, bdC.enc x.2.1, p2A x.2.2.1] (gB true) (sp3_at (A := stepsC) (B := bdC) (D := p2C) (F := fun _ _ _ => some (boolA true)) x.1 x.2.1 x.2.2.1)

theorem noInitM : Tryz.checked.prog.inits.idxOf? 9 = none := by kernel_rfl
abbrev wargsM : Array Value := #[.slice none 0 0, .agg #[.int .i64 0, .int .i64 0, .int .i64 0, .int .i64 0, .bool false], .agg #[.int .i64 0, .int .i64 0]]
theorem readsM (os : Os) {H : Type} (enc : TypeId × Value → H) : ∃ places, DataW.whole enc Tryz.prog ((laidWorld os).forCall (fun _ _ => 0) ⟨#[], wargsM, []⟩).memory Tryz.f9.params.toList Rows.injuryMarginsSpec.vars false wargsM.toList 8 =
    some ([.nil, .agg [.agg [.lit (.int .i64 0), .lit (.int .i64 0)], .agg [.lit (.int .i64 0), .lit (.int .i64 0)], .lit (.bool false)], .agg [.lit (.int .i64 0), .lit (.int .i64 0)]], [], places) :=
  ⟨[], by kernel_rfl⟩
theorem w_varsM (os : Os) : ((laidWorld os).forCall (fun _ _ => 0) ⟨#[], wargsM, []⟩).variablesB Tryz.checked.prog = true := by kernel_rfl
theorem w_heapM (os : Os) : ((((laidWorld os).forCall (fun _ _ => 0) ⟨#[], wargsM, []⟩).heap.toList.drop Tryz.checked.prog.globals.size).take ((begin Tryz.checked.prog (fun _ _ => 0) default).world.heap.size - Tryz.checked.prog.globals.size)) =
    (begin Tryz.checked.prog (fun _ _ => 0) default).world.heap.toList.drop Tryz.checked.prog.globals.size := by kernel_rfl
theorem w_okM (os : Os) : Input.okWideB Tryz.checked.prog ((laidWorld os).forCall (fun _ _ => 0) ⟨#[], wargsM, []⟩) 9 ⟨#[], wargsM, []⟩ = true := by kernel_rfl
theorem w_sizedM (os : Os) {H : Type} (enc : TypeId × Value → H) : (OpenSpec.ofChange Rows.injuryMarginsSpec).bare.sizedB enc Tryz.prog Tryz.f9 false ((laidWorld os).forCall (fun _ _ => 0) ⟨#[], wargsM, []⟩).memory wargsM 8 = true := by kernel_rfl
theorem w_preM (os : Os) {H : Type} (enc : TypeId × Value → H) : (OpenSpec.ofChange Rows.injuryMarginsSpec).preRow enc Tryz.prog Tryz.f9 Rows.injuryMarginsRow.domain false Rows.injuryMarginsRow.laid ((laidWorld os).forCall (fun _ _ => 0) ⟨#[], wargsM, []⟩).memory wargsM := by
  obtain ⟨places, hx⟩ := readsM os enc
  exact OpenSpec.preRow_of_cond 8 hx (by kernel_rfl) (fun k hk => by cases hk) (w_sizedM os enc) (laid_met os wargsM)
theorem liftedM (os : Os) (started : os.Started) (H : Type) (enc : TypeId × Value → H) (F : Stop.Interp) :
    ReturnsInHanded {} Tryz.checked os 9 .any ((OpenSpec.ofChange Rows.injuryMarginsSpec).preRow enc Tryz.prog Tryz.f9 Rows.injuryMarginsRow.domain false Rows.injuryMarginsRow.laid) (((OpenSpec.ofChange Rows.injuryMarginsSpec).at F).post enc Tryz.prog Tryz.f9 false true false false) := by
  refine returnsInHanded_of_row (C := Tryz.checked) (s := OpenSpec.ofChange Rows.injuryMarginsSpec) own started noInitM Tryz.func9
    (witness_row_at (enc := enc) (C := Tryz.checked) false (laidWorld os) wargsM rfl (w_varsM os) (w_heapM os) (w_okM os) (w_preM os enc)) ?_
  intro W base args ds gs before hval hW _ _ _ hL _ _
  refine law_contract (glob := globA) (s := Rows.injuryMarginsSpec) laidOut rfl (fun ds hd => ?_) (t4 := 4) (by kernel_rfl) Tryz.underlying4 (fun t ht => ?_) (by rw [Tryz.params9]; exact readsArgsM) (fun x hq => contractM) hval hW (glob_ok hL)
  · match ds, hd with
    | [d1, d2, d3], _ => rfl
  · have : t = 107 ∨ t = 98 ∨ t = 28 := by rw [Tryz.params9] at ht; simpa using ht
    rcases this with rfl | rfl | rfl <;> exact ⟨by kernel_rfl, of_decide_eq_true (by kernel_rfl)⟩
end Go.Vm.S6
