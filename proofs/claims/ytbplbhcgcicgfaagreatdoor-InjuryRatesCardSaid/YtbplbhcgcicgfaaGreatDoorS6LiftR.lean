/- InjuryRates: for every input the law returns true and leaves its arguments as they were; its conditions: those of the given row alone, which lists four package-level variables as the program lays them. By an evaluator that is proved sound over the model. -/
import Derived.Test.YtbplbhcgcicgfaaGreatDoorS6Wit
import Derived.Test.YtbplbhcgcicgfaaGreatDoorVmH
import Derived.Test.YtbplbhcgcicgfaaGreatDoorS6Law6
namespace Go.Vm.S6
open Go.Proofs Go.RowKit Go.ChangeShapes Go.WideShapes
open Go.Proofs.YtbplbhcgcicgfaaGreatDoor
set_option maxRecDepth 100000

theorem readsI : Reads Tryz.prog 3 (fun n : Int => [intA n]) inI64 := Reads.int Tryz.underlying3
theorem readsInts : Reads Tryz.prog 22 (fun l : List Int => [.rsl 1 (l.map intA) false]) (fun l => l.length ≤ maxLen ∧ ∀ v ∈ l, inI64 v) := Reads.slice Tryz.underlying22 (by kernel_rfl) (by decide) readsI (ElOk.one fun _ => rfl)
theorem argInts : ArgOk Tryz.prog 22 (fun l : List Int => [.rsl 1 (l.map intA) false]) (fun l => .rsl 1 (l.map intA) false) := ArgOk.one (one_cell (by rw [Tryz.underlying22]; trivial))
theorem argI : ArgOk Tryz.prog 3 (fun n : Int => [intA n]) intA := ArgOk.one (one_cell (by rw [Tryz.underlying3]; trivial))
theorem readsMs : Reads Tryz.prog 76 (fun l : List (List Int) => [.rsl 1 (l.map intsC.enc) false]) (fun l => l.length ≤ maxLen ∧ ∀ v ∈ l, (v.length ≤ maxLen ∧ ∀ x ∈ v, inI64 x)) := Reads.slice Tryz.underlying76 (by kernel_rfl) (by decide) readsInts (ElOk.one fun _ => rfl)
theorem readsIv : Reads Tryz.prog 26 (fun v : Int × Int => [intA v.1, intA v.2]) (fun _ => True) :=
  Reads.map (Reads.struct Tryz.underlying26 (by kernel_rfl) (by kernel_rfl) (.cons readsI (.cons readsI .nil))) (fun v => (v.1, v.2.1)) (fun _ => rfl) (fun _ _ => trivial)
theorem readsArgsR : ReadsA Tryz.prog #[76, 26].toList (List (List Int) × (Int × Int) × Unit) (fun x => [.rsl 1 (x.1.map intsC.enc) false, p2A x.2.1]) (fun x => (x.1.length ≤ maxLen ∧ ∀ v ∈ x.1, (v.length ≤ maxLen ∧ ∀ y ∈ v, inI64 y)) ∧ True ∧ True) :=
  .cons readsMs (ArgOk.one (one_cell (by rw [Tryz.underlying76]; trivial))) (.cons readsIv (ArgOk.agg Tryz.underlying26) .nil)
theorem contractR {x : List (List Int) × (Int × Int) × Unit} : Comp Tryz.prog globA 6 [.rsl 1 (x.1.map intsC.enc) false, p2A x.2.1] (gB true) :=
  h6 [slA intsC 1 x.1, p2A x.2.1] (gB true) (sp2_at (A := msC) (B := p2C) (F := fun _ _ => some (boolA true)) x.1 x.2.1)

theorem noInitR : Tryz.checked.prog.inits.idxOf? 6 = none := by kernel_rfl
abbrev wargsR : Array Value := #[.slice none 0 0, .agg #[.int .i64 0, .int .i64 0]]
theorem readsR (os : Os) {H : Type} (enc : TypeId × Value → H) : ∃ places, DataW.whole enc Tryz.prog ((laidWorld os).forCall (fun _ _ => 0) ⟨#[], wargsR, []⟩).memory Tryz.f6.params.toList Rows.injuryRatesSpec.vars false wargsR.toList 8 =
    some ([.nil, .agg [.lit (.int .i64 0), .lit (.int .i64 0)]], [], places) :=
  ⟨[], by kernel_rfl⟩
theorem w_varsR (os : Os) : ((laidWorld os).forCall (fun _ _ => 0) ⟨#[], wargsR, []⟩).variablesB Tryz.checked.prog = true := by kernel_rfl
theorem w_heapR (os : Os) : ((((laidWorld os).forCall (fun _ _ => 0) ⟨#[], wargsR, []⟩).heap.toList.drop Tryz.checked.prog.globals.size).take ((begin Tryz.checked.prog (fun _ _ => 0) default).world.heap.size - Tryz.checked.prog.globals.size)) =
    (begin Tryz.checked.prog (fun _ _ => 0) default).world.heap.toList.drop Tryz.checked.prog.globals.size := by kernel_rfl
theorem w_okR (os : Os) : Input.okWideB Tryz.checked.prog ((laidWorld os).forCall (fun _ _ => 0) ⟨#[], wargsR, []⟩) 6 ⟨#[], wargsR, []⟩ = true := by kernel_rfl
theorem w_sizedR (os : Os) {H : Type} (enc : TypeId × Value → H) : (OpenSpec.ofChange Rows.injuryRatesSpec).bare.sizedB enc Tryz.prog Tryz.f6 false ((laidWorld os).forCall (fun _ _ => 0) ⟨#[], wargsR, []⟩).memory wargsR 8 = true := by kernel_rfl
theorem w_preR (os : Os) {H : Type} (enc : TypeId × Value → H) : (OpenSpec.ofChange Rows.injuryRatesSpec).preRow enc Tryz.prog Tryz.f6 Rows.injuryRatesRow.domain false Rows.injuryRatesRow.laid ((laidWorld os).forCall (fun _ _ => 0) ⟨#[], wargsR, []⟩).memory wargsR := by
  obtain ⟨places, hx⟩ := readsR os enc
  exact OpenSpec.preRow_of_cond 8 hx (by kernel_rfl) (fun k hk => by cases hk) (w_sizedR os enc) (laid_met os wargsR)
theorem liftedR (os : Os) (started : os.Started) (H : Type) (enc : TypeId × Value → H) (F : Stop.Interp) :
    ReturnsInHanded {} Tryz.checked os 6 .any ((OpenSpec.ofChange Rows.injuryRatesSpec).preRow enc Tryz.prog Tryz.f6 Rows.injuryRatesRow.domain false Rows.injuryRatesRow.laid) (((OpenSpec.ofChange Rows.injuryRatesSpec).at F).post enc Tryz.prog Tryz.f6 false true false false) := by
  refine returnsInHanded_of_row (C := Tryz.checked) (s := OpenSpec.ofChange Rows.injuryRatesSpec) own started noInitR Tryz.func6
    (witness_row_at (enc := enc) (C := Tryz.checked) false (laidWorld os) wargsR rfl (w_varsR os) (w_heapR os) (w_okR os) (w_preR os enc)) ?_
  intro W base args ds gs before hval hW _ _ _ hL _ _
  refine law_contract (glob := globA) (s := Rows.injuryRatesSpec) laidOut rfl (fun ds hd => ?_) (t4 := 4) (by kernel_rfl) Tryz.underlying4 (fun t ht => ?_) (by rw [Tryz.params6]; exact readsArgsR) (fun x hq => contractR) hval hW (glob_ok hL)
  · match ds, hd with
    | [d1, d2], _ => rfl
  · have : t = 76 ∨ t = 26 := by rw [Tryz.params6] at ht; simpa using ht
    rcases this with rfl | rfl <;> exact ⟨by kernel_rfl, of_decide_eq_true (by kernel_rfl)⟩
end Go.Vm.S6
