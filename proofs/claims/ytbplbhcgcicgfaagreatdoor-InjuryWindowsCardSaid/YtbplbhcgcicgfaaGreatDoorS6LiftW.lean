/- InjuryWindows: for every input the law returns true and leaves its arguments as they were; its conditions: those of the given row alone, which lists four package-level variables as the program lays them. By an evaluator that is proved sound over the model. -/
import Derived.Test.YtbplbhcgcicgfaaGreatDoorS6Wit
import Derived.Test.YtbplbhcgcicgfaaGreatDoorVmH
import Derived.Test.YtbplbhcgcicgfaaGreatDoorS6Law3
namespace Go.Vm.S6
open Go.Proofs Go.RowKit Go.ChangeShapes Go.WideShapes
open Go.Proofs.YtbplbhcgcicgfaaGreatDoor
set_option maxRecDepth 100000

theorem readsI : Reads Tryz.prog 3 (fun n : Int => [intA n]) inI64 := Reads.int Tryz.underlying3
theorem readsInts : Reads Tryz.prog 22 (fun l : List Int => [.rsl 1 (l.map intA) false]) (fun l => l.length ≤ maxLen ∧ ∀ v ∈ l, inI64 v) := Reads.slice Tryz.underlying22 (by kernel_rfl) (by decide) readsI (ElOk.one fun _ => rfl)
theorem argInts : ArgOk Tryz.prog 22 (fun l : List Int => [.rsl 1 (l.map intA) false]) (fun l => .rsl 1 (l.map intA) false) := ArgOk.one (one_cell (by rw [Tryz.underlying22]; trivial))
theorem argI : ArgOk Tryz.prog 3 (fun n : Int => [intA n]) intA := ArgOk.one (one_cell (by rw [Tryz.underlying3]; trivial))
theorem readsRat : Reads Tryz.prog 28 (fun v : Int × Int => [intA v.1, intA v.2]) (fun _ => True) :=
  Reads.map (Reads.struct Tryz.underlying28 (by kernel_rfl) (by kernel_rfl) (.cons readsI (.cons readsI .nil))) (fun v => (v.1, v.2.1)) (fun _ => rfl) (fun _ _ => trivial)
theorem readsSpan : Reads Tryz.prog 24 (fun v : Int × Int => [intA v.1, intA v.2]) (fun _ => True) :=
  Reads.map (Reads.struct Tryz.underlying24 (by kernel_rfl) (by kernel_rfl) (.cons readsI (.cons readsI .nil))) (fun v => (v.1, v.2.1)) (fun _ => rfl) (fun _ _ => trivial)
theorem readsIv : Reads Tryz.prog 26 (fun v : Int × Int => [intA v.1, intA v.2]) (fun _ => True) :=
  Reads.map (Reads.struct Tryz.underlying26 (by kernel_rfl) (by kernel_rfl) (.cons readsI (.cons readsI .nil))) (fun v => (v.1, v.2.1)) (fun _ => rfl) (fun _ _ => trivial)
theorem readsSr : Reads Tryz.prog 30 (fun v : I6 => [intA v.1, intA v.2.1, intA v.2.2.1, intA v.2.2.2.1, intA v.2.2.2.2.1, intA v.2.2.2.2.2]) (fun _ => True) :=
  Reads.map (Reads.struct Tryz.underlying30 (by kernel_rfl) (by kernel_rfl) (.cons readsSpan (.cons readsIv (.cons readsRat .nil)))) (fun v => (v.1.1, v.1.2, v.2.1.1, v.2.1.2, v.2.2.1.1, v.2.2.1.2)) (fun _ => rfl) (fun _ _ => trivial)
theorem readsArgsW : ReadsA Tryz.prog #[22, 30].toList (List Int × I6 × Unit) (fun x => [.rsl 1 (x.1.map intA) false, srC.enc x.2.1]) (fun x => (x.1.length ≤ maxLen ∧ ∀ v ∈ x.1, inI64 v) ∧ True ∧ True) :=
  .cons readsInts argInts (.cons readsSr (ArgOk.agg Tryz.underlying30) .nil)
theorem contractW {x : List Int × I6 × Unit} : Comp Tryz.prog globA 3 [.rsl 1 (x.1.map intA) false, srC.enc x.2.1] (gB true) :=
  h3 [slA intC 1 x.1, srC.enc x.2.1] (gB true) (sp2_at (A := intsC) (B := srC) (F := fun _ _ => some (boolA true)) x.1 x.2.1)

theorem noInitW : Tryz.checked.prog.inits.idxOf? 3 = none := by kernel_rfl
abbrev wargsW : Array Value := #[.slice none 0 0, .agg #[.int .i64 0, .int .i64 0, .int .i64 0, .int .i64 0, .int .i64 0, .int .i64 0]]
theorem readsW (os : Os) {H : Type} (enc : TypeId × Value → H) : ∃ places, DataW.whole enc Tryz.prog ((laidWorld os).forCall (fun _ _ => 0) ⟨#[], wargsW, []⟩).memory Tryz.f3.params.toList Rows.injuryWindowsSpec.vars false wargsW.toList 8 =
    some ([.nil, .agg [.agg [.lit (.int .i64 0), .lit (.int .i64 0)], .agg [.lit (.int .i64 0), .lit (.int .i64 0)], .agg [.lit (.int .i64 0), .lit (.int .i64 0)]]], [], places) :=
  ⟨[], by kernel_rfl⟩
theorem w_varsW (os : Os) : ((laidWorld os).forCall (fun _ _ => 0) ⟨#[], wargsW, []⟩).variablesB Tryz.checked.prog = true := by kernel_rfl
theorem w_heapW (os : Os) : ((((laidWorld os).forCall (fun _ _ => 0) ⟨#[], wargsW, []⟩).heap.toList.drop Tryz.checked.prog.globals.size).take ((begin Tryz.checked.prog (fun _ _ => 0) default).world.heap.size - Tryz.checked.prog.globals.size)) =
    (begin Tryz.checked.prog (fun _ _ => 0) default).world.heap.toList.drop Tryz.checked.prog.globals.size := by kernel_rfl
theorem w_okW (os : Os) : Input.okWideB Tryz.checked.prog ((laidWorld os).forCall (fun _ _ => 0) ⟨#[], wargsW, []⟩) 3 ⟨#[], wargsW, []⟩ = true := by kernel_rfl
theorem w_sizedW (os : Os) {H : Type} (enc : TypeId × Value → H) : (OpenSpec.ofChange Rows.injuryWindowsSpec).bare.sizedB enc Tryz.prog Tryz.f3 false ((laidWorld os).forCall (fun _ _ => 0) ⟨#[], wargsW, []⟩).memory wargsW 8 = true := by kernel_rfl
theorem w_preW (os : Os) {H : Type} (enc : TypeId × Value → H) : (OpenSpec.ofChange Rows.injuryWindowsSpec).preRow enc Tryz.prog Tryz.f3 Rows.injuryWindowsRow.domain false Rows.injuryWindowsRow.laid ((laidWorld os).forCall (fun _ _ => 0) ⟨#[], wargsW, []⟩).memory wargsW := by
  obtain ⟨places, hx⟩ := readsW os enc
  exact OpenSpec.preRow_of_cond 8 hx (by kernel_rfl) (fun k hk => by cases hk) (w_sizedW os enc) (laid_met os wargsW)
theorem liftedW (os : Os) (started : os.Started) (H : Type) (enc : TypeId × Value → H) (F : Stop.Interp) :
    ReturnsInHanded {} Tryz.checked os 3 .any ((OpenSpec.ofChange Rows.injuryWindowsSpec).preRow enc Tryz.prog Tryz.f3 Rows.injuryWindowsRow.domain false Rows.injuryWindowsRow.laid) (((OpenSpec.ofChange Rows.injuryWindowsSpec).at F).post enc Tryz.prog Tryz.f3 false true false false) := by
  refine returnsInHanded_of_row (C := Tryz.checked) (s := OpenSpec.ofChange Rows.injuryWindowsSpec) own started noInitW Tryz.func3
    (witness_row_at (enc := enc) (C := Tryz.checked) false (laidWorld os) wargsW rfl (w_varsW os) (w_heapW os) (w_okW os) (w_preW os enc)) ?_
  intro W base args ds gs before hval hW _ _ _ hL _ _
  refine law_contract (glob := globA) (s := Rows.injuryWindowsSpec) laidOut rfl (fun ds hd => ?_) (t4 := 4) (by kernel_rfl) Tryz.underlying4 (fun t ht => ?_) (by rw [Tryz.params3]; exact readsArgsW) (fun x hq => contractW) hval hW (glob_ok hL)
  · match ds, hd with
    | [d1, d2], _ => rfl
  · have : t = 22 ∨ t = 30 := by rw [Tryz.params3] at ht; simpa using ht
    rcases this with rfl | rfl <;> exact ⟨by kernel_rfl, of_decide_eq_true (by kernel_rfl)⟩
end Go.Vm.S6
