/- DummyWithdraws: for every input the law returns true and leaves its arguments as they were; its conditions: those of the given row alone, which lists four package-level variables as the program lays them. By an evaluator that is proved sound over the model. -/
import Derived.Test.YtliikgffjphhjaaGreatDoorS3Wit
import Derived.Test.YtliikgffjphhjaaGreatDoorS3Law9
namespace Go.Vm.S3
open Go.Proofs Go.RowKit Go.ChangeShapes Go.WideShapes
open Go.Proofs.YtliikgffjphhjaaGreatDoor
set_option maxRecDepth 100000
theorem rdI : Reads Tryz.prog 3 (fun n : Int => [iA n]) inI64 := Reads.int Tryz.underlying3
theorem rdStr : Reads Tryz.prog 9 (fun s : ByteArray => [sA s]) (fun s => s.size ≤ maxLen) := Reads.str Tryz.underlying9
theorem rdVec : Reads Tryz.prog 32 (fun v : V3 => [iA v.1, iA v.2.1, iA v.2.2]) (fun v => inI64 v.1 ∧ inI64 v.2.1 ∧ inI64 v.2.2) :=
 Reads.map (Reads.struct Tryz.underlying32 (by kernel_rfl) (by kernel_rfl) (.cons rdI (.cons rdI (.cons rdI .nil)))) (fun v => (v.1, v.2.1, v.2.2.1)) (fun _ => rfl) (fun _ h => ⟨h.1, h.2.1, h.2.2.1⟩)
theorem rdIv : Reads Tryz.prog 111 (fun v : I2 => [iA v.1, iA v.2]) (fun v => inI64 v.1 ∧ inI64 v.2) :=
 Reads.map (Reads.struct Tryz.underlying111 (by kernel_rfl) (by kernel_rfl) (.cons rdI (.cons rdI .nil))) (fun v => (v.1, v.2.1)) (fun _ => rfl) (fun _ h => ⟨h.1, h.2.1⟩)
theorem rdIvs : Reads Tryz.prog 139 (fun l : List I2 => [.rsl 2 (l.map ivC.enc) false]) (fun l => l.length ≤ maxLen ∧ ∀ v ∈ l, inI64 v.1 ∧ inI64 v.2) := Reads.slice Tryz.underlying139 (by kernel_rfl) (by decide) rdIv ElOk.agg
theorem rdPt : Reads Tryz.prog 141 (fun x : Pt => [sA x.1, sA x.2.1, iA x.2.2.1, iA x.2.2.2.1, iA x.2.2.2.2.1, iA x.2.2.2.2.2.1, .rsl 2 (x.2.2.2.2.2.2.map ivC.enc) false]) (fun _ => True) :=
 Reads.map (Reads.struct Tryz.underlying141 (by kernel_rfl) (by kernel_rfl) (.cons rdStr (.cons rdStr (.cons rdI (.cons rdVec (.cons rdIvs .nil)))))) (fun v => (v.1, v.2.1, v.2.2.1, v.2.2.2.1.1, v.2.2.2.1.2.1, v.2.2.2.1.2.2, v.2.2.2.2.1)) (fun _ => rfl) (fun _ _ => trivial)
theorem rdPts : Reads Tryz.prog 22 (fun l : List Pt => [.rsl 7 (l.map ptC.enc) false]) (fun l => l.length ≤ maxLen ∧ ∀ v ∈ l, True) := Reads.slice Tryz.underlying22 (by kernel_rfl) (by decide) rdPt ElOk.agg
theorem rdInts : Reads Tryz.prog 84 (fun l : List Int => [.rsl 1 (l.map intC.enc) false]) (fun l => l.length ≤ maxLen ∧ ∀ v ∈ l, inI64 v) := Reads.slice Tryz.underlying84 (by kernel_rfl) (by decide) rdI (ElOk.one fun _ => rfl)
theorem rdStrs : Reads Tryz.prog 25 (fun l : List ByteArray => [.rsl 1 (l.map strC.enc) false]) (fun l => l.length ≤ maxLen ∧ ∀ v ∈ l, v.size ≤ maxLen) := Reads.slice Tryz.underlying25 (by kernel_rfl) (by decide) rdStr (ElOk.one fun _ => rfl)
theorem rdFt : Reads Tryz.prog 143 (fun x : Ft => [iA x.1, sA x.2.1, sA x.2.2]) (fun _ => True) :=
 Reads.map (Reads.struct Tryz.underlying143 (by kernel_rfl) (by kernel_rfl) (.cons rdI (.cons rdStr (.cons rdStr .nil)))) (fun v => (v.1, v.2.1, v.2.2.1)) (fun _ => rfl) (fun _ _ => trivial)
theorem rdFts : Reads Tryz.prog 58 (fun l : List Ft => [.rsl 3 (l.map ftC.enc) false]) (fun l => l.length ≤ maxLen ∧ ∀ v ∈ l, True) := Reads.slice Tryz.underlying58 (by kernel_rfl) (by decide) rdFt ElOk.agg
theorem rdCb : Reads Tryz.prog 86 (fun x : Cb => [sA x.1, sA x.2.1, sA x.2.2.1, iA x.2.2.2.1, .rsl 1 (x.2.2.2.2.map intC.enc) false]) (fun _ => True) :=
 Reads.map (Reads.struct Tryz.underlying86 (by kernel_rfl) (by kernel_rfl) (.cons rdStr (.cons rdStr (.cons rdStr (.cons rdI (.cons rdInts .nil)))))) (fun v => (v.1, v.2.1, v.2.2.1, v.2.2.2.1, v.2.2.2.2.1)) (fun _ => rfl) (fun _ _ => trivial)
theorem rdCbs : Reads Tryz.prog 59 (fun l : List Cb => [.rsl 5 (l.map cbC.enc) false]) (fun l => l.length ≤ maxLen ∧ ∀ v ∈ l, True) := Reads.slice Tryz.underlying59 (by kernel_rfl) (by decide) rdCb ElOk.agg
theorem rdTs : Reads Tryz.prog 135 (fun x : Ts => [sA x.1, iA x.2.1, .rsl 1 (x.2.2.map strC.enc) false]) (fun _ => True) :=
 Reads.map (Reads.struct Tryz.underlying135 (by kernel_rfl) (by kernel_rfl) (.cons rdStr (.cons rdI (.cons rdStrs .nil)))) (fun v => (v.1, v.2.1, v.2.2.1)) (fun _ => rfl) (fun _ _ => trivial)
theorem rdTss : Reads Tryz.prog 60 (fun l : List Ts => [.rsl 3 (l.map tsC.enc) false]) (fun l => l.length ≤ maxLen ∧ ∀ v ∈ l, True) := Reads.slice Tryz.underlying60 (by kernel_rfl) (by decide) rdTs ElOk.agg
theorem rdRule : Reads Tryz.prog 62 (fun v : I2 => [iA v.1, iA v.2]) (fun v => inI64 v.1 ∧ inI64 v.2) :=
 Reads.map (Reads.struct Tryz.underlying62 (by kernel_rfl) (by kernel_rfl) (.cons rdI (.cons rdI .nil))) (fun v => (v.1, v.2.1)) (fun _ => rfl) (fun _ h => ⟨h.1, h.2.1⟩)
theorem rdLab : Reads Tryz.prog 64 (fun x : Lb => [.rsl 7 (x.1.map ptC.enc) false, .rsl 3 (x.2.1.map ftC.enc) false, .rsl 5 (x.2.2.1.map cbC.enc) false, .rsl 3 (x.2.2.2.1.map tsC.enc) false, iA x.2.2.2.2.1, iA x.2.2.2.2.2]) (fun _ => True) :=
 Reads.map (Reads.struct Tryz.underlying64 (by kernel_rfl) (by kernel_rfl) (.cons rdPts (.cons rdFts (.cons rdCbs (.cons rdTss (.cons rdRule .nil)))))) (fun v => (v.1, v.2.1, v.2.2.1, v.2.2.2.1, v.2.2.2.2.1.1, v.2.2.2.2.1.2)) (fun _ => rfl) (fun _ _ => trivial)
theorem readsArgsW : ReadsA Tryz.prog #[64, 5].toList (Lb × Int × Unit) (fun x => [lbA x.1, u8A x.2.1]) (fun x => True ∧ inU8 x.2.1 ∧ True) :=
 .cons rdLab (ArgOk.agg Tryz.underlying64) (.cons (Reads.u8 Tryz.underlying5) (ArgOk.one (one_cell (by rw [Tryz.underlying5]; trivial))) .nil)
theorem contractW {x : Lb × Int × Unit} (h : inU8 x.2.1) : Comp Tryz.prog globA 9 [lbA x.1, u8A x.2.1] (gB true) :=
 law9_cmp x.1 x.2.1 h.1 (by have := h.2; omega)
theorem noInitW : Tryz.checked.prog.inits.idxOf? 9 = none := by kernel_rfl
abbrev wargsW : Array Value := #[.agg #[.slice none 0 0, .slice none 0 0, .slice none 0 0, .slice none 0 0, .int .i64 0, .int .i64 0], .int .u8 0]
theorem readsW (os : Os) {H : Type} (enc : TypeId × Value → H) : ∃ places, DataW.whole enc Tryz.prog ((laidWorld os).forCall (fun _ _ => 0) ⟨#[], wargsW, []⟩).memory Tryz.f9.params.toList Rows.dummyWithdrawsSpec.vars false wargsW.toList 8 =
  some ([.agg [.nil, .nil, .nil, .nil, .agg [.lit (.int .i64 0), .lit (.int .i64 0)]], .lit (.int .u8 0)], [], places) :=
 ⟨[], by kernel_rfl⟩
theorem w_varsW (os : Os) : ((laidWorld os).forCall (fun _ _ => 0) ⟨#[], wargsW, []⟩).variablesB Tryz.checked.prog = true := by kernel_rfl
theorem w_heapW (os : Os) : ((((laidWorld os).forCall (fun _ _ => 0) ⟨#[], wargsW, []⟩).heap.toList.drop Tryz.checked.prog.globals.size).take ((begin Tryz.checked.prog (fun _ _ => 0) default).world.heap.size - Tryz.checked.prog.globals.size)) =
  (begin Tryz.checked.prog (fun _ _ => 0) default).world.heap.toList.drop Tryz.checked.prog.globals.size := by kernel_rfl
theorem w_okW (os : Os) : Input.okWideB Tryz.checked.prog ((laidWorld os).forCall (fun _ _ => 0) ⟨#[], wargsW, []⟩) 9 ⟨#[], wargsW, []⟩ = true := by kernel_rfl
theorem w_sizedW (os : Os) {H : Type} (enc : TypeId × Value → H) : (OpenSpec.ofChange Rows.dummyWithdrawsSpec).bare.sizedB enc Tryz.prog Tryz.f9 false ((laidWorld os).forCall (fun _ _ => 0) ⟨#[], wargsW, []⟩).memory wargsW 8 = true := by kernel_rfl
theorem w_preW (os : Os) {H : Type} (enc : TypeId × Value → H) : (OpenSpec.ofChange Rows.dummyWithdrawsSpec).preRow enc Tryz.prog Tryz.f9 Rows.dummyWithdrawsRow.domain false Rows.dummyWithdrawsRow.laid ((laidWorld os).forCall (fun _ _ => 0) ⟨#[], wargsW, []⟩).memory wargsW := by
 obtain ⟨places, hx⟩ := readsW os enc
 exact OpenSpec.preRow_of_cond 8 hx (by kernel_rfl) (fun k hk => by cases hk) (w_sizedW os enc) (laid_met os wargsW)
theorem liftedW (os : Os) (started : os.Started) (H : Type) (enc : TypeId × Value → H) (F : Stop.Interp) :
  ReturnsInHanded {} Tryz.checked os 9 .any ((OpenSpec.ofChange Rows.dummyWithdrawsSpec).preRow enc Tryz.prog Tryz.f9 Rows.dummyWithdrawsRow.domain false Rows.dummyWithdrawsRow.laid) (((OpenSpec.ofChange Rows.dummyWithdrawsSpec).at F).post enc Tryz.prog Tryz.f9 false true false false) := by
 refine returnsInHanded_of_row (C := Tryz.checked) (s := OpenSpec.ofChange Rows.dummyWithdrawsSpec) own started noInitW Tryz.func9
  (witness_row_at (enc := enc) (C := Tryz.checked) false (laidWorld os) wargsW rfl (w_varsW os) (w_heapW os) (w_okW os) (w_preW os enc)) ?_
 intro W base args ds gs before hval hW _ _ _ hL _ _
 refine law_contract (glob := globA) (s := Rows.dummyWithdrawsSpec) laidOut rfl (fun ds hd => ?_) (t4 := 4) (by kernel_rfl) Tryz.underlying4 (fun t ht => ?_) (by rw [Tryz.params9]; exact readsArgsW) (fun x hq => by exact contractW hq.2.1) hval hW (glob_ok hL)
 ·match ds, hd with
  | [d1, d2], _ => rfl
 ·have : t = 64 ∨ t = 5 := by rw [Tryz.params9] at ht; simpa using ht
  rcases this with rfl | rfl <;> exact ⟨by kernel_rfl, of_decide_eq_true (by kernel_rfl)⟩
end Go.Vm.S3
