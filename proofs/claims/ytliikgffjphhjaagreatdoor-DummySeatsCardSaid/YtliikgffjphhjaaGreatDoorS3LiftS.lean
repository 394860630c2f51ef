/- DummySeats: for every input, boxes and points, steps and signs, the law returns true and leaves its arguments as they were; its conditions: those of the given row alone, which lists four package-level variables as the program lays them. By an evaluator that is proved sound over the model. -/
import Derived.Test.YtliikgffjphhjaaGreatDoorS3Wit
import Derived.Test.YtliikgffjphhjaaGreatDoorS3Law8
namespace Go.Vm.S3
open Go.Proofs Go.RowKit Go.ChangeShapes Go.WideShapes
open Go.Proofs.YtliikgffjphhjaaGreatDoor
set_option maxRecDepth 100000

theorem readsI : Reads Tryz.prog 3 (fun n : Int => [intA n]) inI64 := Reads.int Tryz.underlying3
theorem readsB : Reads Tryz.prog 4 (fun b : Bool => [boolA b]) (fun _ => True) := Reads.bool Tryz.underlying4
theorem readsT : Reads Tryz.prog 9 (fun s : ByteArray => [strA s]) (fun s => s.size ≤ maxLen) := Reads.str Tryz.underlying9
theorem readsVec : Reads Tryz.prog 32 (fun v : V3 => [intA v.1, intA v.2.1, intA v.2.2]) (fun v => inI64 v.1 ∧ inI64 v.2.1 ∧ inI64 v.2.2) :=
  Reads.map (Reads.struct Tryz.underlying32 (by kernel_rfl) (by kernel_rfl) (.cons readsI (.cons readsI (.cons readsI .nil)))) (fun v => (v.1, v.2.1, v.2.2.1)) (fun _ => rfl) (fun _ h => ⟨h.1, h.2.1, h.2.2.1⟩)
theorem readsIv : Reads Tryz.prog 111 (fun v : I2 => [intA v.1, intA v.2]) (fun v => inI64 v.1 ∧ inI64 v.2) :=
  Reads.map (Reads.struct Tryz.underlying111 (by kernel_rfl) (by kernel_rfl) (.cons readsI (.cons readsI .nil))) (fun v => (v.1, v.2.1)) (fun _ => rfl) (fun _ h => ⟨h.1, h.2.1⟩)
theorem readsBox : Reads Tryz.prog 113 (fun b : I6 => [intA b.1, intA b.2.1, intA b.2.2.1, intA b.2.2.2.1, intA b.2.2.2.2.1, intA b.2.2.2.2.2]) (fun _ => True) :=
  Reads.map (Reads.struct Tryz.underlying113 (by kernel_rfl) (by kernel_rfl) (.cons readsIv (.cons readsIv (.cons readsIv .nil)))) (fun v => (v.1.1, v.1.2, v.2.1.1, v.2.1.2, v.2.2.1.1, v.2.2.1.2)) (fun _ => rfl) (fun _ _ => trivial)
theorem readsStep : Reads Tryz.prog 117 (fun x : ByteArray × Bool => [strA x.1, boolA x.2]) (fun _ => True) :=
  Reads.map (Reads.struct Tryz.underlying117 (by kernel_rfl) (by kernel_rfl) (.cons readsT (.cons readsB .nil))) (fun v => (v.1, v.2.1)) (fun _ => rfl) (fun _ _ => trivial)
theorem readsSign : Reads Tryz.prog 121 (fun x : ByteArray × ByteArray => [strA x.1, strA x.2]) (fun _ => True) :=
  Reads.map (Reads.struct Tryz.underlying121 (by kernel_rfl) (by kernel_rfl) (.cons readsT (.cons readsT .nil))) (fun v => (v.1, v.2.1)) (fun _ => rfl) (fun _ _ => trivial)
theorem readsBoxes : Reads Tryz.prog 101 (fun l : List I6 => [.rsl 6 (l.map bxA) false]) (fun l => l.length ≤ maxLen ∧ ∀ v ∈ l, True) := Reads.slice Tryz.underlying101 (by kernel_rfl) (by decide) readsBox ElOk.agg
theorem readsVecs : Reads Tryz.prog 102 (fun l : List V3 => [.rsl 3 (l.map vA) false]) (fun l => l.length ≤ maxLen ∧ ∀ v ∈ l, inI64 v.1 ∧ inI64 v.2.1 ∧ inI64 v.2.2) := Reads.slice Tryz.underlying102 (by kernel_rfl) (by decide) readsVec ElOk.agg
theorem readsSteps : Reads Tryz.prog 105 (fun l : List (ByteArray × Bool) => [.rsl 2 (l.map stA) false]) (fun l => l.length ≤ maxLen ∧ ∀ v ∈ l, True) := Reads.slice Tryz.underlying105 (by kernel_rfl) (by decide) readsStep ElOk.agg
theorem readsSigns : Reads Tryz.prog 106 (fun l : List (ByteArray × ByteArray) => [.rsl 2 (l.map sgA) false]) (fun l => l.length ≤ maxLen ∧ ∀ v ∈ l, True) := Reads.slice Tryz.underlying106 (by kernel_rfl) (by decide) readsSign ElOk.agg
theorem readsSeat : Reads Tryz.prog 104 (fun x : List I6 × List V3 => [.rsl 6 (x.1.map bxA) false, .rsl 3 (x.2.map vA) false]) (fun _ => True) :=
  Reads.map (Reads.struct Tryz.underlying104 (by kernel_rfl) (by kernel_rfl) (.cons readsBoxes (.cons readsVecs .nil))) (fun v => (v.1, v.2.1)) (fun _ => rfl) (fun _ _ => trivial)
theorem readsArgsS : ReadsA Tryz.prog #[104, 105, 106].toList ((List I6 × List V3) × List (ByteArray × Bool) × List (ByteArray × ByteArray) × Unit) (fun x => [.agg [.rsl 6 (x.1.1.map bxA) false, .rsl 3 (x.1.2.map vA) false], .rsl 2 (x.2.1.map stA) false, .rsl 2 (x.2.2.1.map sgA) false]) (fun x => True ∧ (x.2.1.length ≤ maxLen ∧ ∀ v ∈ x.2.1, True) ∧ (x.2.2.1.length ≤ maxLen ∧ ∀ v ∈ x.2.2.1, True) ∧ True) :=
  .cons readsSeat (ArgOk.agg Tryz.underlying104) (.cons readsSteps (ArgOk.one (one_cell (by rw [Tryz.underlying105]; trivial))) (.cons readsSigns (ArgOk.one (one_cell (by rw [Tryz.underlying106]; trivial))) .nil))
theorem contractS {x : (List I6 × List V3) × List (ByteArray × Bool) × List (ByteArray × ByteArray) × Unit} : Comp Tryz.prog globA 8 [.agg [.rsl 6 (x.1.1.map bxA) false, .rsl 3 (x.1.2.map vA) false], .rsl 2 (x.2.1.map stA) false, .rsl 2 (x.2.2.1.map sgA) false] (gB true) :=
  law8_ok [.agg [slA bxC 6 x.1.1, slA vecC 3 x.1.2], slA stC 2 x.2.1, slA sgC 2 x.2.2.1] (gB true) (sp3_at (A := seatC) (B := listC stC 2) (D := listC sgC 2) (F := fun _ _ _ => some (gB true)) x.1 x.2.1 x.2.2.1)

theorem noInitS : Tryz.checked.prog.inits.idxOf? 8 = none := by kernel_rfl
abbrev wargsS : Array Value := #[.agg #[.slice none 0 0, .slice none 0 0], .slice none 0 0, .slice none 0 0]
theorem readsS (os : Os) {H : Type} (enc : TypeId × Value → H) : ∃ places, DataW.whole enc Tryz.prog ((laidWorld os).forCall (fun _ _ => 0) ⟨#[], wargsS, []⟩).memory Tryz.f8.params.toList Rows.dummySeatsSpec.vars false wargsS.toList 8 =
    some ([.agg [.nil, .nil], .nil, .nil], [], places) :=
  ⟨[], by kernel_rfl⟩
theorem w_varsS (os : Os) : ((laidWorld os).forCall (fun _ _ => 0) ⟨#[], wargsS, []⟩).variablesB Tryz.checked.prog = true := by kernel_rfl
theorem w_heapS (os : Os) : ((((laidWorld os).forCall (fun _ _ => 0) ⟨#[], wargsS, []⟩).heap.toList.drop Tryz.checked.prog.globals.size).take ((begin Tryz.checked.prog (fun _ _ => 0) default).world.heap.size - Tryz.checked.prog.globals.size)) =
    (begin Tryz.checked.prog (fun _ _ => 0) default).world.heap.toList.drop Tryz.checked.prog.globals.size := by kernel_rfl
theorem w_okS (os : Os) : Input.okWideB Tryz.checked.prog ((laidWorld os).forCall (fun _ _ => 0) ⟨#[], wargsS, []⟩) 8 ⟨#[], wargsS, []⟩ = true := by kernel_rfl
theorem w_sizedS (os : Os) {H : Type} (enc : TypeId × Value → H) : (OpenSpec.ofChange Rows.dummySeatsSpec).bare.sizedB enc Tryz.prog Tryz.f8 false ((laidWorld os).forCall (fun _ _ => 0) ⟨#[], wargsS, []⟩).memory wargsS 8 = true := by kernel_rfl
theorem w_preS (os : Os) {H : Type} (enc : TypeId × Value → H) : (OpenSpec.ofChange Rows.dummySeatsSpec).preRow enc Tryz.prog Tryz.f8 Rows.dummySeatsRow.domain false Rows.dummySeatsRow.laid ((laidWorld os).forCall (fun _ _ => 0) ⟨#[], wargsS, []⟩).memory wargsS := by
  obtain ⟨places, hx⟩ := readsS os enc
  exact OpenSpec.preRow_of_cond 8 hx (by kernel_rfl) (fun k hk => by cases hk) (w_sizedS os enc) (laid_met os wargsS)
theorem liftedS (os : Os) (started : os.Started) (H : Type) (enc : TypeId × Value → H) (F : Stop.Interp) :
    ReturnsInHanded {} Tryz.checked os 8 .any ((OpenSpec.ofChange Rows.dummySeatsSpec).preRow enc Tryz.prog Tryz.f8 Rows.dummySeatsRow.domain false Rows.dummySeatsRow.laid) (((OpenSpec.ofChange Rows.dummySeatsSpec).at F).post enc Tryz.prog Tryz.f8 false true false false) := by
  refine returnsInHanded_of_row (C := Tryz.checked) (s := OpenSpec.ofChange Rows.dummySeatsSpec) own started noInitS Tryz.func8
    (witness_row_at (enc := enc) (C := Tryz.checked) false (laidWorld os) wargsS rfl (w_varsS os) (w_heapS os) (w_okS os) (w_preS os enc)) ?_
  intro W base args ds gs before hval hW _ _ _ hL _ _
  refine law_contract (glob := globA) (s := Rows.dummySeatsSpec) laidOut rfl (fun ds hd => ?_) (t4 := 4) (by kernel_rfl) Tryz.underlying4 (fun t ht => ?_) (by rw [Tryz.params8]; exact readsArgsS) (fun x hq => contractS) hval hW (glob_ok hL)
  · match ds, hd with
    | [d1, d2, d3], _ => rfl
  · have : t = 104 ∨ t = 105 ∨ t = 106 := by rw [Tryz.params8] at ht; simpa using ht
    rcases this with rfl | rfl | rfl <;> exact ⟨by kernel_rfl, of_decide_eq_true (by kernel_rfl)⟩
end Go.Vm.S3
