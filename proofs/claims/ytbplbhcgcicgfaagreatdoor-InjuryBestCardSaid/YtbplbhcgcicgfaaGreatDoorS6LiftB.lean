/- InjuryBest: for every input the law returns true and leaves its arguments as they were; its conditions: those of the given row alone, which lists four package-level variables as the program lays them. By an evaluator that is proved sound over the model. -/
import Derived.Test.YtbplbhcgcicgfaaGreatDoorS6Wit
import Derived.Test.YtbplbhcgcicgfaaGreatDoorVmH
import Derived.Test.YtbplbhcgcicgfaaGreatDoorS6Law11
namespace Go.Vm.S6
open Go.Proofs Go.RowKit Go.ChangeShapes Go.WideShapes
open Go.Proofs.YtbplbhcgcicgfaaGreatDoor
set_option maxRecDepth 100000

theorem readsI : Reads Tryz.prog 3 (fun n : Int => [intA n]) inI64 := Reads.int Tryz.underlying3
theorem readsInts : Reads Tryz.prog 22 (fun l : List Int => [.rsl 1 (l.map intA) false]) (fun l => l.length ≤ maxLen ∧ ∀ v ∈ l, inI64 v) := Reads.slice Tryz.underlying22 (by kernel_rfl) (by decide) readsI (ElOk.one fun _ => rfl)
theorem argInts : ArgOk Tryz.prog 22 (fun l : List Int => [.rsl 1 (l.map intA) false]) (fun l => .rsl 1 (l.map intA) false) := ArgOk.one (one_cell (by rw [Tryz.underlying22]; trivial))
theorem argI : ArgOk Tryz.prog 3 (fun n : Int => [intA n]) intA := ArgOk.one (one_cell (by rw [Tryz.underlying3]; trivial))
theorem readsU2 : Reads Tryz.prog 129 (fun p : Int × Int => [u8A p.1, u8A p.2]) (fun p => inU8 p.1 ∧ inU8 p.2) := Reads.arr2 Tryz.underlying129 (by kernel_rfl) (by kernel_rfl) (Reads.u8 Tryz.underlying5)
theorem readsIv : Reads Tryz.prog 26 (fun v : Int × Int => [intA v.1, intA v.2]) (fun _ => True) :=
  Reads.map (Reads.struct Tryz.underlying26 (by kernel_rfl) (by kernel_rfl) (.cons readsI (.cons readsI .nil))) (fun v => (v.1, v.2.1)) (fun _ => rfl) (fun _ _ => trivial)
theorem readsArgsB : ReadsA Tryz.prog #[22, 26, 129].toList (List Int × (Int × Int) × (Int × Int) × Unit) (fun x => [.rsl 1 (x.1.map intA) false, p2A x.2.1, .agg [u8A x.2.2.1.1, u8A x.2.2.1.2]]) (fun x => (x.1.length ≤ maxLen ∧ ∀ v ∈ x.1, inI64 v) ∧ True ∧ (inU8 x.2.2.1.1 ∧ inU8 x.2.2.1.2) ∧ True) :=
  .cons readsInts argInts (.cons readsIv (ArgOk.agg Tryz.underlying26) (.cons readsU2 (ArgOk.arr Tryz.underlying129) .nil))
theorem contractB {x : List Int × (Int × Int) × (Int × Int) × Unit} (hq : inU8 x.2.2.1.1 ∧ inU8 x.2.2.1.2) : Comp Tryz.prog globA 11 [.rsl 1 (x.1.map intA) false, p2A x.2.1, .agg [u8A x.2.2.1.1, u8A x.2.2.1.2]] (gB true) := by
  have hok : okU2 x.2.2.1 = true := okU2_iff.2 ⟨hq.1, hq.2⟩
  have h1 := sp3_at (A := intsC) (B := p2C) (D := u2C) (F := fun _ _ p => bif okU2 p then some (boolA true) else none) x.1 x.2.1 x.2.2.1
  rw [hok] at h1
  exact h11 [slA intC 1 x.1, p2A x.2.1, u2A x.2.2.1] (gB true) h1

theorem noInitB : Tryz.checked.prog.inits.idxOf? 11 = none := by kernel_rfl
abbrev wargsB : Array Value := #[.slice none 0 0, .agg #[.int .i64 0, .int .i64 0], .agg #[.int .u8 0, .int .u8 0]]
theorem readsB (os : Os) {H : Type} (enc : TypeId × Value → H) : ∃ places, DataW.whole enc Tryz.prog ((laidWorld os).forCall (fun _ _ => 0) ⟨#[], wargsB, []⟩).memory Tryz.f11.params.toList Rows.injuryBestSpec.vars false wargsB.toList 8 =
    some ([.nil, .agg [.lit (.int .i64 0), .lit (.int .i64 0)], .agg [.lit (.int .u8 0), .lit (.int .u8 0)]], [], places) :=
  ⟨[], by kernel_rfl⟩
theorem w_varsB (os : Os) : ((laidWorld os).forCall (fun _ _ => 0) ⟨#[], wargsB, []⟩).variablesB Tryz.checked.prog = true := by kernel_rfl
theorem w_heapB (os : Os) : ((((laidWorld os).forCall (fun _ _ => 0) ⟨#[], wargsB, []⟩).heap.toList.drop Tryz.checked.prog.globals.size).take ((begin Tryz.checked.prog (fun _ _ => 0) default).world.heap.size - Tryz.checked.prog.globals.size)) =
    (begin Tryz.checked.prog (fun _ _ => 0) default).world.heap.toList.drop Tryz.checked.prog.globals.size := by kernel_rfl
theorem w_okB (os : Os) : Input.okWideB Tryz.checked.prog ((laidWorld os).forCall (fun _ _ => 0) ⟨#[], wargsB, []⟩) 11 ⟨#[], wargsB, []⟩ = true := by kernel_rfl
theorem w_sizedB (os : Os) {H : Type} (enc : TypeId × Value → H) : (OpenSpec.ofChange Rows.injuryBestSpec).bare.sizedB enc Tryz.prog Tryz.f11 false ((laidWorld os).forCall (fun _ _ => 0) ⟨#[], wargsB, []⟩).memory wargsB 8 = true := by kernel_rfl
theorem w_preB (os : Os) {H : Type} (enc : TypeId × Value → H) : (OpenSpec.ofChange Rows.injuryBestSpec).preRow enc Tryz.prog Tryz.f11 Rows.injuryBestRow.domain false Rows.injuryBestRow.laid ((laidWorld os).forCall (fun _ _ => 0) ⟨#[], wargsB, []⟩).memory wargsB := by
  obtain ⟨places, hx⟩ := readsB os enc
  exact OpenSpec.preRow_of_cond 8 hx (by kernel_rfl) (fun k hk => by cases hk) (w_sizedB os enc) (laid_met os wargsB)
theorem liftedB (os : Os) (started : os.Started) (H : Type) (enc : TypeId × Value → H) (F : Stop.Interp) :
    ReturnsInHanded {} Tryz.checked os 11 .any ((OpenSpec.ofChange Rows.injuryBestSpec).preRow enc Tryz.prog Tryz.f11 Rows.injuryBestRow.domain false Rows.injuryBestRow.laid) (((OpenSpec.ofChange Rows.injuryBestSpec).at F).post enc Tryz.prog Tryz.f11 false true false false) := by
  refine returnsInHanded_of_row (C := Tryz.checked) (s := OpenSpec.ofChange Rows.injuryBestSpec) own started noInitB Tryz.func11
    (witness_row_at (enc := enc) (C := Tryz.checked) false (laidWorld os) wargsB rfl (w_varsB os) (w_heapB os) (w_okB os) (w_preB os enc)) ?_
  intro W base args ds gs before hval hW _ _ _ hL _ _
  refine law_contract (glob := globA) (s := Rows.injuryBestSpec) laidOut rfl (fun ds hd => ?_) (t4 := 4) (by kernel_rfl) Tryz.underlying4 (fun t ht => ?_) (by rw [Tryz.params11]; exact readsArgsB) (fun x hq => by exact contractB hq.2.2.1) hval hW (glob_ok hL)
  · match ds, hd with
    | [d1, d2, d3], _ => rfl
  · have : t = 22 ∨ t = 26 ∨ t = 129 := by rw [Tryz.params11] at ht; simpa using ht
    rcases this with rfl | rfl | rfl <;> exact ⟨by kernel_rfl, of_decide_eq_true (by kernel_rfl)⟩
end Go.Vm.S6
