/- InjuryRanks: for every input the law returns true and leaves its arguments as they were; its conditions: those of the given row alone, which lists four package-level variables as the program lays them. By an evaluator that is proved sound over the model. -/
import Derived.Test.YtbplbhcgcicgfaaGreatDoorS6Wit
import Derived.Test.YtbplbhcgcicgfaaGreatDoorVmH
import Derived.Test.YtbplbhcgcicgfaaGreatDoorS6Law10
namespace Go.Vm.S6
open Go.Proofs Go.RowKit Go.ChangeShapes Go.WideShapes
open Go.Proofs.YtbplbhcgcicgfaaGreatDoor
set_option maxRecDepth 100000

theorem readsI : Reads Tryz.prog 3 (fun n : Int => [intA n]) inI64 := Reads.int Tryz.underlying3
theorem readsRat : Reads Tryz.prog 28 (fun v : Int × Int => [intA v.1, intA v.2]) (fun _ => True) :=
  Reads.map (Reads.struct Tryz.underlying28 (by kernel_rfl) (by kernel_rfl) (.cons readsI (.cons readsI .nil))) (fun v => (v.1, v.2.1)) (fun _ => rfl) (fun _ _ => trivial)
theorem readsRats : Reads Tryz.prog 121 (fun l : List (Int × Int) => [.rsl 2 (l.map p2C.enc) false]) (fun l => l.length ≤ maxLen ∧ ∀ v ∈ l, True) := Reads.slice Tryz.underlying121 (by kernel_rfl) (by decide) readsRat ElOk.agg
theorem readsArgsK : ReadsA Tryz.prog #[121].toList (List (Int × Int) × Unit) (fun x => [.rsl 2 (x.1.map p2C.enc) false]) (fun x => (x.1.length ≤ maxLen ∧ ∀ v ∈ x.1, True) ∧ True) :=
  .cons readsRats (ArgOk.one (one_cell (by rw [Tryz.underlying121]; trivial))) .nil
theorem contractK {x : List (Int × Int) × Unit} : Comp Tryz.prog globA 10 [.rsl 2 (x.1.map p2C.enc) false] (gB true) :=
  h10 [slA p2C 2 x.1] (gB true) (sp1_at (A := ratsC) (F := fun _ => some (boolA true)) x.1)

theorem noInitK : Tryz.checked.prog.inits.idxOf? 10 = none := by kernel_rfl
abbrev wargsK : Array Value := #[.slice none 0 0]
theorem readsK (os : Os) {H : Type} (enc : TypeId × Value → H) : ∃ places, DataW.whole enc Tryz.prog ((laidWorld os).forCall (fun _ _ => 0) ⟨#[], wargsK, []⟩).memory Tryz.f10.params.toList Rows.injuryRanksSpec.vars false wargsK.toList 8 =
    some ([.nil], [], places) :=
  ⟨[], by kernel_rfl⟩
theorem w_varsK (os : Os) : ((laidWorld os).forCall (fun _ _ => 0) ⟨#[], wargsK, []⟩).variablesB Tryz.checked.prog = true := by kernel_rfl
theorem w_heapK (os : Os) : ((((laidWorld os).forCall (fun _ _ => 0) ⟨#[], wargsK, []⟩).heap.toList.drop Tryz.checked.prog.globals.size).take ((begin Tryz.checked.prog (fun _ _ => 0) default).world.heap.size - Tryz.checked.prog.globals.size)) =
    (begin Tryz.checked.prog (fun _ _ => 0) default).world.heap.toList.drop Tryz.checked.prog.globals.size := by kernel_rfl
theorem w_okK (os : Os) : Input.okWideB Tryz.checked.prog ((laidWorld os).forCall (fun _ _ => 0) ⟨#[], wargsK, []⟩) 10 ⟨#[], wargsK, []⟩ = true := by kernel_rfl
theorem w_sizedK (os : Os) {H : Type} (enc : TypeId × Value → H) : (OpenSpec.ofChange Rows.injuryRanksSpec).bare.sizedB enc Tryz.prog Tryz.f10 false ((laidWorld os).forCall (fun _ _ => 0) ⟨#[], wargsK, []⟩).memory wargsK 8 = true := by kernel_rfl
theorem w_preK (os : Os) {H : Type} (enc : TypeId × Value → H) : (OpenSpec.ofChange Rows.injuryRanksSpec).preRow enc Tryz.prog Tryz.f10 Rows.injuryRanksRow.domain false Rows.injuryRanksRow.laid ((laidWorld os).forCall (fun _ _ => 0) ⟨#[], wargsK, []⟩).memory wargsK := by
  obtain ⟨places, hx⟩ := readsK os enc
  exact OpenSpec.preRow_of_cond 8 hx (by kernel_rfl) (fun k hk => by cases hk) (w_sizedK os enc) (laid_met os wargsK)
theorem liftedK (os : Os) (started : os.Started) (H : Type) (enc : TypeId × Value → H) (F : Stop.Interp) :
    ReturnsInHanded {} Tryz.checked os 10 .any ((OpenSpec.ofChange Rows.injuryRanksSpec).preRow enc Tryz.prog Tryz.f10 Rows.injuryRanksRow.domain false Rows.injuryRanksRow.laid) (((OpenSpec.ofChange Rows.injuryRanksSpec).at F).post enc Tryz.prog Tryz.f10 false true false false) := by
  refine returnsInHanded_of_row (C := Tryz.checked) (s := OpenSpec.ofChange Rows.injuryRanksSpec) own started noInitK Tryz.func10
    (witness_row_at (enc := enc) (C := Tryz.checked) false (laidWorld os) wargsK rfl (w_varsK os) (w_heapK os) (w_okK os) (w_preK os enc)) ?_
  intro W base args ds gs before hval hW _ _ _ hL _ _
  refine law_contract (glob := globA) (s := Rows.injuryRanksSpec) laidOut rfl (fun ds hd => ?_) (t4 := 4) (by kernel_rfl) Tryz.underlying4 (fun t ht => ?_) (by rw [Tryz.params10]; exact readsArgsK) (fun x hq => contractK) hval hW (glob_ok hL)
  · match ds, hd with
    | [d1], _ => rfl
  · have : t = 121 := by rw [Tryz.params10] at ht; simpa using ht
    subst this
    exact ⟨by kernel_rfl, of_decide_eq_true (by kernel_rfl)⟩
end Go.Vm.S6
