/- InjuryStrings: for every input the law returns true and leaves its arguments as they were; its conditions: those of the given row alone, which lists six package-level variables as the program lays them, whatever another variable of the library holds. By an evaluator that is proved sound over the model. -/
import Derived.Test.YtbplbhcgcicgfaaGreatDoorS6WitM
import Derived.Test.YtbplbhcgcicgfaaGreatDoorS6Law14
namespace Go.Vm.S6
open Go.Proofs Go.RowKit Go.ChangeShapes Go.WideShapes
open Go.Proofs.YtbplbhcgcicgfaaGreatDoor
set_option maxRecDepth 100000

theorem readsI : Reads Tryz.prog 3 (fun n : Int => [intA n]) inI64 := Reads.int Tryz.underlying3
theorem readsRat : Reads Tryz.prog 28 (fun v : Int × Int => [intA v.1, intA v.2]) (fun _ => True) :=
  Reads.map (Reads.struct Tryz.underlying28 (by kernel_rfl) (by kernel_rfl) (.cons readsI (.cons readsI .nil))) (fun v => (v.1, v.2.1)) (fun _ => rfl) (fun _ _ => trivial)
theorem readsStep : Reads Tryz.prog 158 (fun v : Int × Int × Int => [intA v.1, intA v.2.1, intA v.2.2]) (fun _ => True) :=
  Reads.map (Reads.struct Tryz.underlying158 (by kernel_rfl) (by kernel_rfl) (.cons readsRat (.cons readsI .nil))) (fun v => (v.1.1, v.1.2, v.2.1)) (fun _ => rfl) (fun _ _ => trivial)
theorem readsSteps : Reads Tryz.prog 107 (fun l : List (Int × Int × Int) => [.rsl 3 (l.map stepC.enc) false]) (fun l => l.length ≤ maxLen ∧ ∀ v ∈ l, True) := Reads.slice Tryz.underlying107 (by kernel_rfl) (by decide) readsStep ElOk.agg
theorem readsS : Reads Tryz.prog 9 (fun s : ByteArray => [strA s]) (fun s => s.size ≤ maxLen) := Reads.str Tryz.underlying9
theorem readsArgsT : ReadsA Tryz.prog #[107, 9].toList (List (Int × Int × Int) × ByteArray × Unit) (fun x => [.rsl 3 (x.1.map stepC.enc) false, strA x.2.1]) (fun x => (x.1.length ≤ maxLen ∧ ∀ v ∈ x.1, True) ∧ x.2.1.size ≤ maxLen ∧ True) :=
  .cons readsSteps (ArgOk.one (one_cell (by rw [Tryz.underlying107]; trivial))) (.cons readsS (ArgOk.one (one_cell (by rw [Tryz.underlying9]; trivial))) .nil)
theorem contractT {m : Int} {x : List (Int × Int × Int) × ByteArray × Unit} : Comp Tryz.prog (globM m) 14 [.rsl 3 (x.1.map stepC.enc) false, strA x.2.1] (gB true) :=
  h14 m [slA stepC 3 x.1, strA x.2.1] (gB true) (sp2_at (A := stepsC) (B := strC) (F := fun _ _ => some (boolA true)) x.1 x.2.1)

theorem noInitT : Tryz.checked.prog.inits.idxOf? 14 = none := by kernel_rfl
abbrev wargsT : Array Value := #[.slice none 0 0, .string ⟨#[]⟩]
theorem readsT (os : Os) {H : Type} (enc : TypeId × Value → H) : ∃ places, DataW.whole enc Tryz.prog ((laidWorld6 os).forCall (fun _ _ => 0) ⟨#[], wargsT, []⟩).memory Tryz.f14.params.toList Rows.injuryStringsSpec.vars false wargsT.toList 8 =
    some ([.nil, .lit (.string [])], [], places) :=
  ⟨[], by kernel_rfl⟩
theorem w_varsT (os : Os) : ((laidWorld6 os).forCall (fun _ _ => 0) ⟨#[], wargsT, []⟩).variablesB Tryz.checked.prog = true := by kernel_rfl
theorem w_heapT (os : Os) : ((((laidWorld6 os).forCall (fun _ _ => 0) ⟨#[], wargsT, []⟩).heap.toList.drop Tryz.checked.prog.globals.size).take ((begin Tryz.checked.prog (fun _ _ => 0) default).world.heap.size - Tryz.checked.prog.globals.size)) =
    (begin Tryz.checked.prog (fun _ _ => 0) default).world.heap.toList.drop Tryz.checked.prog.globals.size := by kernel_rfl
theorem w_okT (os : Os) : Input.okWideB Tryz.checked.prog ((laidWorld6 os).forCall (fun _ _ => 0) ⟨#[], wargsT, []⟩) 14 ⟨#[], wargsT, []⟩ = true := by kernel_rfl
theorem w_sizedT (os : Os) {H : Type} (enc : TypeId × Value → H) : (OpenSpec.ofChange Rows.injuryStringsSpec).bare.sizedB enc Tryz.prog Tryz.f14 false ((laidWorld6 os).forCall (fun _ _ => 0) ⟨#[], wargsT, []⟩).memory wargsT 8 = true := by kernel_rfl
theorem w_preT (os : Os) {H : Type} (enc : TypeId × Value → H) : (OpenSpec.ofChange Rows.injuryStringsSpec).preRow enc Tryz.prog Tryz.f14 Rows.injuryStringsRow.domain false Rows.injuryStringsRow.laid ((laidWorld6 os).forCall (fun _ _ => 0) ⟨#[], wargsT, []⟩).memory wargsT := by
  obtain ⟨places, hx⟩ := readsT os enc
  exact OpenSpec.preRow_of_cond 8 hx (by kernel_rfl) (fun k hk => by cases hk) (w_sizedT os enc) (laid_met6 os wargsT)
theorem liftedT (os : Os) (started : os.Started) (H : Type) (enc : TypeId × Value → H) (F : Stop.Interp) :
    ReturnsInHanded {} Tryz.checked os 14 .any ((OpenSpec.ofChange Rows.injuryStringsSpec).preRow enc Tryz.prog Tryz.f14 Rows.injuryStringsRow.domain false Rows.injuryStringsRow.laid) (((OpenSpec.ofChange Rows.injuryStringsSpec).at F).post enc Tryz.prog Tryz.f14 false true false false) := by
  refine returnsInHanded_of_row (C := Tryz.checked) (s := OpenSpec.ofChange Rows.injuryStringsSpec) own started noInitT Tryz.func14
    (witness_row_at (enc := enc) (C := Tryz.checked) false (laidWorld6 os) wargsT rfl (w_varsT os) (w_heapT os) (w_okT os) (w_preT os enc)) ?_
  intro W base args ds gs before hval hW _ _ _ hL hsh _
  obtain ⟨m, hm, hs⟩ := cellM hsh
  refine law_contract (glob := globM m) (s := Rows.injuryStringsSpec) laidOut rfl (fun ds hd => ?_) (t4 := 4) (by kernel_rfl) Tryz.underlying4 (fun t ht => ?_) (by rw [Tryz.params14]; exact readsArgsT) (fun x hq => contractT) hval hW (glob_okM hL hm hs)
  · match ds, hd with
    | [d1, d2], _ => rfl
  · have : t = 107 ∨ t = 9 := by rw [Tryz.params14] at ht; simpa using ht
    rcases this with rfl | rfl <;> exact ⟨by kernel_rfl, of_decide_eq_true (by kernel_rfl)⟩
end Go.Vm.S6
