/- InjuryBack: for every input the law returns true and leaves its arguments as they were; its conditions: those of the given row alone, which lists six package-level variables as the program lays them, whatever another variable of the library holds. By an evaluator that is proved sound over the model. -/
import Derived.Test.YtbplbhcgcicgfaaGreatDoorS6WitM
import Derived.Test.YtbplbhcgcicgfaaGreatDoorS6Law15
namespace Go.Vm.S6
open Go.Proofs Go.RowKit Go.ChangeShapes Go.WideShapes
open Go.Proofs.YtbplbhcgcicgfaaGreatDoor
set_option maxRecDepth 100000

theorem readsI : Reads Tryz.prog 3 (fun n : Int => [intA n]) inI64 := Reads.int Tryz.underlying3
theorem readsRat : Reads Tryz.prog 28 (fun v : Int × Int => [intA v.1, intA v.2]) (fun _ => True) :=
  Reads.map (Reads.struct Tryz.underlying28 (by kernel_rfl) (by kernel_rfl) (.cons readsI (.cons readsI .nil))) (fun v => (v.1, v.2.1)) (fun _ => rfl) (fun _ _ => trivial)
theorem readsStep : Reads Tryz.prog 158 (fun v : Int × Int × Int => [intA v.1, intA v.2.1, intA v.2.2]) (fun _ => True) :=
  Reads.map (Reads.struct Tryz.underlying158 (by kernel_rfl) (by kernel_rfl) (.cons readsRat (.cons readsI .nil))) (fun v => (v.1.1, v.1.2, v.2.1)) (fun _ => rfl) (fun _ _ => trivial)
theorem readsSteps : Reads Tryz.prog 107 (fun l : List (Int × Int × Int) => [.rsl 3 (l.map stepC.enc) false]) (fun l => l.length ≤ maxLen ∧ ∀ v ∈ l, True) := Reads.slice Tryz.underlying107 (by kernel_rfl) (by decide) readsStep ElOk.agg
theorem readsS : Reads Tryz.prog 9 (fun s : ByteArray => [strA s]) (fun s => s.size ≤ maxLen) := Reads.str Tryz.underlying9
theorem readsRats : Reads Tryz.prog 121 (fun l : List (Int × Int) => [.rsl 2 (l.map p2C.enc) false]) (fun l => l.length ≤ maxLen ∧ ∀ v ∈ l, True) := Reads.slice Tryz.underlying121 (by kernel_rfl) (by decide) readsRat ElOk.agg
theorem readsArgsC : ReadsA Tryz.prog #[121, 107, 9].toList (List (Int × Int) × List (Int × Int × Int) × ByteArray × Unit) (fun x => [.rsl 2 (x.1.map p2C.enc) false, .rsl 3 (x.2.1.map stepC.enc) false, strA x.2.2.1]) (fun x => (x.1.length ≤ maxLen ∧ ∀ v ∈ x.1, True) ∧ (x.2.1.length ≤ maxLen ∧ ∀ v ∈ x.2.1, True) ∧ x.2.2.1.size ≤ maxLen ∧ True) :=
  .cons readsRats (ArgOk.one (one_cell (by rw [Tryz.underlying121]; trivial))) (.cons readsSteps (ArgOk.one (one_cell (by rw [Tryz.underlying107]; trivial))) (.cons readsS (ArgOk.one (one_cell (by rw [Tryz.underlying9]; trivial))) .nil))
theorem contractC {m : Int} {x : List (Int × Int) × List (Int × Int × Int) × ByteArray × Unit} : Comp Tryz.prog (globM m) 15 [.rsl 2 (x.1.map p2C.enc) false, .rsl 3 (x.2.1.map stepC.enc) false, strA x.2.2.1] (gB true) :=
  h15 m [slA p2C 2 x.1, slA stepC 3 x.2.1, strA x.2.2.1] (gB true) (sp3_at (A := ratsC) (B := stepsC) (D := strC) (F := fun _ _ _ => some (boolA true)) x.1 x.2.1 x.2.2.1)

theorem noInitC : Tryz.checked.prog.inits.idxOf? 15 = none := by kernel_rfl
abbrev wargsC : Array Value := #[.slice none 0 0, .slice none 0 0, .string ⟨#[]⟩]
theorem readsC (os : Os) {H : Type} (enc : TypeId × Value → H) : ∃ places, DataW.whole enc Tryz.prog ((laidWorld6 os).forCall (fun _ _ => 0) ⟨#[], wargsC, []⟩).memory Tryz.f15.params.toList Rows.injuryBackSpec.vars false wargsC.toList 8 =
    some ([.nil, .nil, .lit (.string [])], [], places) :=
  ⟨[], by kernel_rfl⟩
theorem w_varsC (os : Os) : ((laidWorld6 os).forCall (fun _ _ => 0) ⟨#[], wargsC, []⟩).variablesB Tryz.checked.prog = true := by kernel_rfl
theorem w_heapC (os : Os) : ((((laidWorld6 os).forCall (fun _ _ => 0) ⟨#[], wargsC, []⟩).heap.toList.drop Tryz.checked.prog.globals.size).take ((begin Tryz.checked.prog (fun _ _ => 0) default).world.heap.size - Tryz.checked.prog.globals.size)) =
    (begin Tryz.checked.prog (fun _ _ => 0) default).world.heap.toList.drop Tryz.checked.prog.globals.size := by kernel_rfl
theorem w_okC (os : Os) : Input.okWideB Tryz.checked.prog ((laidWorld6 os).forCall (fun _ _ => 0) ⟨#[], wargsC, []⟩) 15 ⟨#[], wargsC, []⟩ = true := by kernel_rfl
theorem w_sizedC (os : Os) {H : Type} (enc : TypeId × Value → H) : (OpenSpec.ofChange Rows.injuryBackSpec).bare.sizedB enc Tryz.prog Tryz.f15 false ((laidWorld6 os).forCall (fun _ _ => 0) ⟨#[], wargsC, []⟩).memory wargsC 8 = true := by kernel_rfl
theorem w_preC (os : Os) {H : Type} (enc : TypeId × Value → H) : (OpenSpec.ofChange Rows.injuryBackSpec).preRow enc Tryz.prog Tryz.f15 Rows.injuryBackRow.domain false Rows.injuryBackRow.laid ((laidWorld6 os).forCall (fun _ _ => 0) ⟨#[], wargsC, []⟩).memory wargsC := by
  obtain ⟨places, hx⟩ := readsC os enc
  exact OpenSpec.preRow_of_cond 8 hx (by kernel_rfl) (fun k hk => by cases hk) (w_sizedC os enc) (laid_met6 os wargsC)
theorem liftedC (os : Os) (started : os.Started) (H : Type) (enc : TypeId × Value → H) (F : Stop.Interp) :
    ReturnsInHanded {} Tryz.checked os 15 .any ((OpenSpec.ofChange Rows.injuryBackSpec).preRow enc Tryz.prog Tryz.f15 Rows.injuryBackRow.domain false Rows.injuryBackRow.laid) (((OpenSpec.ofChange Rows.injuryBackSpec).at F).post enc Tryz.prog Tryz.f15 false true false false) := by
  refine returnsInHanded_of_row (C := Tryz.checked) (s := OpenSpec.ofChange Rows.injuryBackSpec) own started noInitC Tryz.func15
    (witness_row_at (enc := enc) (C := Tryz.checked) false (laidWorld6 os) wargsC rfl (w_varsC os) (w_heapC os) (w_okC os) (w_preC os enc)) ?_
  intro W base args ds gs before hval hW _ _ _ hL hsh _
  obtain ⟨m, hm, hs⟩ := cellM hsh
  refine law_contract (glob := globM m) (s := Rows.injuryBackSpec) laidOut rfl (fun ds hd => ?_) (t4 := 4) (by kernel_rfl) Tryz.underlying4 (fun t ht => ?_) (by rw [Tryz.params15]; exact readsArgsC) (fun x hq => contractC) hval hW (glob_okM hL hm hs)
  · match ds, hd with
    | [d1, d2, d3], _ => rfl
  · have : t = 121 ∨ t = 107 ∨ t = 9 := by rw [Tryz.params15] at ht; simpa using ht
    rcases this with rfl | rfl | rfl <;> exact ⟨by kernel_rfl, of_decide_eq_true (by kernel_rfl)⟩
end Go.Vm.S6
