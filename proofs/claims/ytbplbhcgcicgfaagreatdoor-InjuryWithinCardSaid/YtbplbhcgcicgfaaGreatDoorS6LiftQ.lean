/- InjuryWithin: for every input the law returns true and leaves its arguments as they were; its conditions: those of the given row alone, which lists four package-level variables as the program lays them. By an evaluator that is proved sound over the model. -/
import Derived.Test.YtbplbhcgcicgfaaGreatDoorS6Wit
import Derived.Test.YtbplbhcgcicgfaaGreatDoorVmH
import Derived.Test.YtbplbhcgcicgfaaGreatDoorS6Law12
namespace Go.Vm.S6
open Go.Proofs Go.RowKit Go.ChangeShapes Go.WideShapes
open Go.Proofs.YtbplbhcgcicgfaaGreatDoor
set_option maxRecDepth 100000

theorem readsI : Reads Tryz.prog 3 (fun n : Int => [intA n]) inI64 := Reads.int Tryz.underlying3
theorem readsB : Reads Tryz.prog 4 (fun b : Bool => [boolA b]) (fun _ => True) := Reads.bool Tryz.underlying4
theorem readsVa : Reads Tryz.prog 139 (fun v : Va => [intA v.1, intA v.2.1, boolA v.2.2.1, boolA v.2.2.2]) (fun _ => True) :=
  Reads.map (Reads.struct Tryz.underlying139 (by kernel_rfl) (by kernel_rfl) (.cons readsI (.cons readsI (.cons readsB (.cons readsB .nil))))) (fun v => (v.1, v.2.1, v.2.2.1, v.2.2.2.1)) (fun _ => rfl) (fun _ _ => trivial)
theorem readsVas : Reads Tryz.prog 88 (fun l : List Va => [.rsl 4 (l.map vaC.enc) false]) (fun l => l.length ≤ maxLen ∧ ∀ v ∈ l, True) := Reads.slice Tryz.underlying88 (by kernel_rfl) (by decide) readsVa ElOk.agg
theorem argVas : ArgOk Tryz.prog 88 (fun l : List Va => [.rsl 4 (l.map vaC.enc) false]) (fun l => .rsl 4 (l.map vaC.enc) false) := ArgOk.one (one_cell (by rw [Tryz.underlying88]; trivial))
theorem readsIv : Reads Tryz.prog 26 (fun v : Int × Int => [intA v.1, intA v.2]) (fun _ => True) :=
  Reads.map (Reads.struct Tryz.underlying26 (by kernel_rfl) (by kernel_rfl) (.cons readsI (.cons readsI .nil))) (fun v => (v.1, v.2.1)) (fun _ => rfl) (fun _ _ => trivial)
theorem readsRat : Reads Tryz.prog 28 (fun v : Int × Int => [intA v.1, intA v.2]) (fun _ => True) :=
  Reads.map (Reads.struct Tryz.underlying28 (by kernel_rfl) (by kernel_rfl) (.cons readsI (.cons readsI .nil))) (fun v => (v.1, v.2.1)) (fun _ => rfl) (fun _ _ => trivial)
theorem readsStep : Reads Tryz.prog 158 (fun v : Int × Int × Int => [intA v.1, intA v.2.1, intA v.2.2]) (fun _ => True) :=
  Reads.map (Reads.struct Tryz.underlying158 (by kernel_rfl) (by kernel_rfl) (.cons readsRat (.cons readsI .nil))) (fun v => (v.1.1, v.1.2, v.2.1)) (fun _ => rfl) (fun _ _ => trivial)
theorem readsSteps : Reads Tryz.prog 107 (fun l : List (Int × Int × Int) => [.rsl 3 (l.map stepC.enc) false]) (fun l => l.length ≤ maxLen ∧ ∀ v ∈ l, True) := Reads.slice Tryz.underlying107 (by kernel_rfl) (by decide) readsStep ElOk.agg
theorem readsRow : Reads Tryz.prog 135 (fun l : List Int => l.map u8A) (fun l => l.length = 16 ∧ ∀ v ∈ l, inU8 v) := Reads.arr1 Tryz.underlying135 (by kernel_rfl) (by kernel_rfl) (Reads.u8 Tryz.underlying5)
abbrev WhT : Type := List Int × List Int × (Int × Int) × List (Int × Int × Int) × Unit
abbrev whE (v : WhT) : List AV := v.1.map u8A ++ (v.2.1.map u8A ++ ([intA v.2.2.1.1, intA v.2.2.1.2] ++ ([.rsl 3 (v.2.2.2.1.map stepC.enc) false] ++ [])))
theorem readsWh : Reads Tryz.prog 137 whE (fun v => (v.1.length = 16 ∧ ∀ x ∈ v.1, inU8 x) ∧ (v.2.1.length = 16 ∧ ∀ x ∈ v.2.1, inU8 x) ∧ True) :=
  Reads.map (Reads.struct Tryz.underlying137 (by kernel_rfl) (by kernel_rfl) (.cons readsRow (.cons readsRow (.cons readsRat (.cons readsSteps .nil))))) (fun v => v) (fun _ => rfl) (fun v hv => ⟨hv.1, hv.2.1, trivial⟩)
theorem wh_eq : ∀ {v : WhT}, v.1.length = 16 → v.2.1.length = 16 → whE v = whC (fun i => (v.1 ++ v.2.1).getD i 0) v.2.2.1.1 v.2.2.1.2 (v.2.2.2.1.map stepC.enc)
  | ([a0, a1, a2, a3, a4, a5, a6, a7, a8, a9, a10, a11, a12, a13, a14, a15], [b0, b1, b2, b3, b4, b5, b6, b7, b8, b9, b10, b11, b12, b13, b14, b15], _, _, _), _, _ => rfl
theorem readsArgsQ : ReadsA Tryz.prog #[88, 26, 137].toList (List Va × (Int × Int) × WhT × Unit) (fun x => [.rsl 4 (x.1.map vaC.enc) false, p2A x.2.1, .agg (whE x.2.2.1)]) (fun x => (x.1.length ≤ maxLen ∧ ∀ v ∈ x.1, True) ∧ True ∧ ((x.2.2.1.1.length = 16 ∧ ∀ y ∈ x.2.2.1.1, inU8 y) ∧ (x.2.2.1.2.1.length = 16 ∧ ∀ y ∈ x.2.2.1.2.1, inU8 y) ∧ True) ∧ True) :=
  .cons readsVas argVas (.cons readsIv (ArgOk.agg Tryz.underlying26) (.cons readsWh (ArgOk.agg Tryz.underlying137) .nil))
theorem contractQ {x : List Va × (Int × Int) × WhT × Unit} (hq : (x.2.2.1.1.length = 16 ∧ ∀ y ∈ x.2.2.1.1, inU8 y) ∧ (x.2.2.1.2.1.length = 16 ∧ ∀ y ∈ x.2.2.1.2.1, inU8 y) ∧ True) : Comp Tryz.prog globA 12 [.rsl 4 (x.1.map vaC.enc) false, p2A x.2.1, .agg (whE x.2.2.1)] (gB true) := by
  rw [wh_eq hq.1.1 hq.2.1.1]
  refine law12 (l := x.1) (k := x.2.1) (x := x.2.2.1.2.2.1) (tb := x.2.2.1.2.2.2.1) fun i hi => ?_
  have hl : (x.2.2.1.1 ++ x.2.2.1.2.1).length = 32 := by rw [List.length_append, hq.1.1, hq.2.1.1]
  have hm : (x.2.2.1.1 ++ x.2.2.1.2.1).getD i 0 ∈ x.2.2.1.1 ++ x.2.2.1.2.1 := by
    rw [List.getD_eq_getElem?_getD, List.getElem?_eq_getElem (by omega)]
    exact List.getElem_mem _
  rcases List.mem_append.1 hm with h | h
  · exact hq.1.2 _ h
  · exact hq.2.1.2 _ h

theorem noInitQ : Tryz.checked.prog.inits.idxOf? 12 = none := by kernel_rfl
abbrev wargsQ : Array Value := #[.slice none 0 0, .agg #[.int .i64 0, .int .i64 0], .agg #[.int .u8 0, .int .u8 0, .int .u8 0, .int .u8 0, .int .u8 0, .int .u8 0, .int .u8 0, .int .u8 0, .int .u8 0, .int .u8 0, .int .u8 0, .int .u8 0, .int .u8 0, .int .u8 0, .int .u8 0, .int .u8 0, .int .u8 0, .int .u8 0, .int .u8 0, .int .u8 0, .int .u8 0, .int .u8 0, .int .u8 0, .int .u8 0, .int .u8 0, .int .u8 0, .int .u8 0, .int .u8 0, .int .u8 0, .int .u8 0, .int .u8 0, .int .u8 0, .int .i64 0, .int .i64 0, .slice none 0 0]]
theorem readsQ (os : Os) {H : Type} (enc : TypeId × Value → H) : ∃ places, DataW.whole enc Tryz.prog ((laidWorld os).forCall (fun _ _ => 0) ⟨#[], wargsQ, []⟩).memory Tryz.f12.params.toList Rows.injuryWithinSpec.vars false wargsQ.toList 8 =
    some ([.nil, .agg [.lit (.int .i64 0), .lit (.int .i64 0)], .agg [.agg [.lit (.int .u8 0), .lit (.int .u8 0), .lit (.int .u8 0), .lit (.int .u8 0), .lit (.int .u8 0), .lit (.int .u8 0), .lit (.int .u8 0), .lit (.int .u8 0), .lit (.int .u8 0), .lit (.int .u8 0), .lit (.int .u8 0), .lit (.int .u8 0), .lit (.int .u8 0), .lit (.int .u8 0), .lit (.int .u8 0), .lit (.int .u8 0)], .agg [.lit (.int .u8 0), .lit (.int .u8 0), .lit (.int .u8 0), .lit (.int .u8 0), .lit (.int .u8 0), .lit (.int .u8 0), .lit (.int .u8 0), .lit (.int .u8 0), .lit (.int .u8 0), .lit (.int .u8 0), .lit (.int .u8 0), .lit (.int .u8 0), .lit (.int .u8 0), .lit (.int .u8 0), .lit (.int .u8 0), .lit (.int .u8 0)], .agg [.lit (.int .i64 0), .lit (.int .i64 0)], .nil]], [], places) :=
  ⟨[], by kernel_rfl⟩
theorem w_varsQ (os : Os) : ((laidWorld os).forCall (fun _ _ => 0) ⟨#[], wargsQ, []⟩).variablesB Tryz.checked.prog = true := by kernel_rfl
theorem w_heapQ (os : Os) : ((((laidWorld os).forCall (fun _ _ => 0) ⟨#[], wargsQ, []⟩).heap.toList.drop Tryz.checked.prog.globals.size).take ((begin Tryz.checked.prog (fun _ _ => 0) default).world.heap.size - Tryz.checked.prog.globals.size)) =
    (begin Tryz.checked.prog (fun _ _ => 0) default).world.heap.toList.drop Tryz.checked.prog.globals.size := by kernel_rfl
theorem w_okQ (os : Os) : Input.okWideB Tryz.checked.prog ((laidWorld os).forCall (fun _ _ => 0) ⟨#[], wargsQ, []⟩) 12 ⟨#[], wargsQ, []⟩ = true := by kernel_rfl
theorem w_sizedQ (os : Os) {H : Type} (enc : TypeId × Value → H) : (OpenSpec.ofChange Rows.injuryWithinSpec).bare.sizedB enc Tryz.prog Tryz.f12 false ((laidWorld os).forCall (fun _ _ => 0) ⟨#[], wargsQ, []⟩).memory wargsQ 8 = true := by kernel_rfl
theorem w_preQ (os : Os) {H : Type} (enc : TypeId × Value → H) : (OpenSpec.ofChange Rows.injuryWithinSpec).preRow enc Tryz.prog Tryz.f12 Rows.injuryWithinRow.domain false Rows.injuryWithinRow.laid ((laidWorld os).forCall (fun _ _ => 0) ⟨#[], wargsQ, []⟩).memory wargsQ := by
  obtain ⟨places, hx⟩ := readsQ os enc
  exact OpenSpec.preRow_of_cond 8 hx (by kernel_rfl) (fun k hk => by cases hk) (w_sizedQ os enc) (laid_met os wargsQ)
theorem liftedQ (os : Os) (started : os.Started) (H : Type) (enc : TypeId × Value → H) (F : Stop.Interp) :
    ReturnsInHanded {} Tryz.checked os 12 .any ((OpenSpec.ofChange Rows.injuryWithinSpec).preRow enc Tryz.prog Tryz.f12 Rows.injuryWithinRow.domain false Rows.injuryWithinRow.laid) (((OpenSpec.ofChange Rows.injuryWithinSpec).at F).post enc Tryz.prog Tryz.f12 false true false false) := by
  refine returnsInHanded_of_row (C := Tryz.checked) (s := OpenSpec.ofChange Rows.injuryWithinSpec) own started noInitQ Tryz.func12
    (witness_row_at (enc := enc) (C := Tryz.checked) false (laidWorld os) wargsQ rfl (w_varsQ os) (w_heapQ os) (w_okQ os) (w_preQ os enc)) ?_
  intro W base args ds gs before hval hW _ _ _ hL _ _
  refine law_contract (glob := globA) (s := Rows.injuryWithinSpec) laidOut rfl (fun ds hd => ?_) (t4 := 4) (by kernel_rfl) Tryz.underlying4 (fun t ht => ?_) (by rw [Tryz.params12]; exact readsArgsQ) (fun x hq => by exact contractQ hq.2.2.1) hval hW (glob_ok hL)
  · match ds, hd with
    | [d1, d2, d3], _ => rfl
  · have : t = 88 ∨ t = 26 ∨ t = 137 := by rw [Tryz.params12] at ht; simpa using ht
    rcases this with rfl | rfl | rfl <;> exact ⟨by kernel_rfl, of_decide_eq_true (by kernel_rfl)⟩
end Go.Vm.S6
