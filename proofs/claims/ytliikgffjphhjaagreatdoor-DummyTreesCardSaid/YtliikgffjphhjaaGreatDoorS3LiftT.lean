/- DummyTrees: for every input the law returns true and leaves its arguments as they were; its conditions: those of the given row alone, which lists four package-level variables as the program lays them. By an evaluator that is proved sound over the model. -/
import Derived.Test.YtliikgffjphhjaaGreatDoorS3Wit
import Derived.Test.YtliikgffjphhjaaGreatDoorS3Law3
namespace Go.Vm.S3
open Go.Proofs Go.RowKit Go.ChangeShapes Go.WideShapes
open Go.Proofs.YtliikgffjphhjaaGreatDoor
set_option maxRecDepth 100000

theorem rdI : Reads Tryz.prog 3 (fun n : Int => [intA n]) inI64 := Reads.int Tryz.underlying3
theorem rdStr : Reads Tryz.prog 9 (fun s : ByteArray => [strA s]) (fun s => s.size ≤ maxLen) := Reads.str Tryz.underlying9
theorem argT : ArgOk Tryz.prog 9 (fun s : ByteArray => [strA s]) strA := ArgOk.one (one_cell (by rw [Tryz.underlying9]; trivial))
theorem rdVec : Reads Tryz.prog 32 (fun v : V3 => [intA v.1, intA v.2.1, intA v.2.2]) (fun v => inI64 v.1 ∧ inI64 v.2.1 ∧ inI64 v.2.2) :=
  Reads.map (Reads.struct Tryz.underlying32 (by kernel_rfl) (by kernel_rfl) (.cons rdI (.cons rdI (.cons rdI .nil)))) (fun v => (v.1, v.2.1, v.2.2.1)) (fun _ => rfl) (fun _ h => ⟨h.1, h.2.1, h.2.2.1⟩)
theorem rdIv : Reads Tryz.prog 111 (fun v : I2 => [intA v.1, intA v.2]) (fun v => inI64 v.1 ∧ inI64 v.2) :=
  Reads.map (Reads.struct Tryz.underlying111 (by kernel_rfl) (by kernel_rfl) (.cons rdI (.cons rdI .nil))) (fun v => (v.1, v.2.1)) (fun _ => rfl) (fun _ h => ⟨h.1, h.2.1⟩)
theorem rdIvs : Reads Tryz.prog 139 (fun l : List I2 => [.rsl 2 (l.map ivC.enc) false]) (fun l => l.length ≤ maxLen ∧ ∀ v ∈ l, inI64 v.1 ∧ inI64 v.2) := Reads.slice Tryz.underlying139 (by kernel_rfl) (by decide) rdIv ElOk.agg
theorem rdPt : Reads Tryz.prog 141 (fun x : Pt => [strA x.1, strA x.2.1, intA x.2.2.1, intA x.2.2.2.1, intA x.2.2.2.2.1, intA x.2.2.2.2.2.1, .rsl 2 (x.2.2.2.2.2.2.map ivC.enc) false]) (fun _ => True) :=
  Reads.map (Reads.struct Tryz.underlying141 (by kernel_rfl) (by kernel_rfl) (.cons rdStr (.cons rdStr (.cons rdI (.cons rdVec (.cons rdIvs .nil)))))) (fun v => (v.1, v.2.1, v.2.2.1, v.2.2.2.1.1, v.2.2.2.1.2.1, v.2.2.2.1.2.2, v.2.2.2.2.1)) (fun _ => rfl) (fun _ _ => trivial)
theorem rdPts : Reads Tryz.prog 22 (fun l : List Pt => [.rsl 7 (l.map ptC.enc) false]) (fun l => l.length ≤ maxLen ∧ ∀ v ∈ l, True) := Reads.slice Tryz.underlying22 (by kernel_rfl) (by decide) rdPt ElOk.agg
theorem readsArgsT : ReadsA Tryz.prog #[22, 9].toList (List Pt × ByteArray × Unit) (fun x => [.rsl 7 (x.1.map ptC.enc) false, strA x.2.1]) (fun x => (x.1.length ≤ maxLen ∧ ∀ v ∈ x.1, True) ∧ x.2.1.size ≤ maxLen ∧ True) :=
  .cons rdPts (ArgOk.one (one_cell (by rw [Tryz.underlying22]; trivial))) (.cons rdStr argT .nil)
theorem contractT {x : List Pt × ByteArray × Unit} : Comp Tryz.prog globA 3 [.rsl 7 (x.1.map ptC.enc) false, strA x.2.1] (gB true) :=
  law3_ok [slA ptC 7 x.1, strA x.2.1] (gB true) (sp2_at (A := ptsC) (B := strC) (F := fun _ _ => some (gB true)) x.1 x.2.1)

theorem noInitT : Tryz.checked.prog.inits.idxOf? 3 = none := by kernel_rfl
abbrev wargsT : Array Value := #[.slice none 0 0, .string ⟨#[]⟩]
theorem readsT (os : Os) {H : Type} (enc : TypeId × Value → H) : ∃ places, DataW.whole enc Tryz.prog ((laidWorld os).forCall (fun _ _ => 0) ⟨#[], wargsT, []⟩).memory Tryz.f3.params.toList Rows.dummyTreesSpec.vars false wargsT.toList 8 =
    some ([.nil, .lit (.string [])], [], places) :=
  ⟨[], by kernel_rfl⟩
theorem w_varsT (os : Os) : ((laidWorld os).forCall (fun _ _ => 0) ⟨#[], wargsT, []⟩).variablesB Tryz.checked.prog = true := by kernel_rfl
theorem w_heapT (os : Os) : ((((laidWorld os).forCall (fun _ _ => 0) ⟨#[], wargsT, []⟩).heap.toList.drop Tryz.checked.prog.globals.size).take ((begin Tryz.checked.prog (fun _ _ => 0) default).world.heap.size - Tryz.checked.prog.globals.size)) =
    (begin Tryz.checked.prog (fun _ _ => 0) default).world.heap.toList.drop Tryz.checked.prog.globals.size := by kernel_rfl
theorem w_okT (os : Os) : Input.okWideB Tryz.checked.prog ((laidWorld os).forCall (fun _ _ => 0) ⟨#[], wargsT, []⟩) 3 ⟨#[], wargsT, []⟩ = true := by kernel_rfl
theorem w_sizedT (os : Os) {H : Type} (enc : TypeId × Value → H) : (OpenSpec.ofChange Rows.dummyTreesSpec).bare.sizedB enc Tryz.prog Tryz.f3 false ((laidWorld os).forCall (fun _ _ => 0) ⟨#[], wargsT, []⟩).memory wargsT 8 = true := by kernel_rfl
theorem w_preT (os : Os) {H : Type} (enc : TypeId × Value → H) : (OpenSpec.ofChange Rows.dummyTreesSpec).preRow enc Tryz.prog Tryz.f3 Rows.dummyTreesRow.domain false Rows.dummyTreesRow.laid ((laidWorld os).forCall (fun _ _ => 0) ⟨#[], wargsT, []⟩).memory wargsT := by
  obtain ⟨places, hx⟩ := readsT os enc
  exact OpenSpec.preRow_of_cond 8 hx (by kernel_rfl) (fun k hk => by cases hk) (w_sizedT os enc) (laid_met os wargsT)
theorem liftedT (os : Os) (started : os.Started) (H : Type) (enc : TypeId × Value → H) (F : Stop.Interp) :
    ReturnsInHanded {} Tryz.checked os 3 .any ((OpenSpec.ofChange Rows.dummyTreesSpec).preRow enc Tryz.prog Tryz.f3 Rows.dummyTreesRow.domain false Rows.dummyTreesRow.laid) (((OpenSpec.ofChange Rows.dummyTreesSpec).at F).post enc Tryz.prog Tryz.f3 false true false false) := by
  refine returnsInHanded_of_row (C := Tryz.checked) (s := OpenSpec.ofChange Rows.dummyTreesSpec) own started noInitT Tryz.func3
    (witness_row_at (enc := enc) (C := Tryz.checked) false (laidWorld os) wargsT rfl (w_varsT os) (w_heapT os) (w_okT os) (w_preT os enc)) ?_
  intro W base args ds gs before hval hW _ _ _ hL _ _
  refine law_contract (glob := globA) (s := Rows.dummyTreesSpec) laidOut rfl (fun ds hd => ?_) (t4 := 4) (by kernel_rfl) Tryz.underlying4 (fun t ht => ?_) (by rw [Tryz.params3]; exact readsArgsT) (fun x hq => contractT) hval hW (glob_ok hL)
  · match ds, hd with
    | [d1, d2], _ => rfl
  · have : t = 22 ∨ t = 9 := by rw [Tryz.params3] at ht; simpa using ht
    rcases this with rfl | rfl <;> exact ⟨by kernel_rfl, of_decide_eq_true (by kernel_rfl)⟩
end Go.Vm.S3
