/- The package-level variables that the row lists; the steps from a law's contract to its statement and its card. -/
import Derived.Test.YtliikgffjphhjaaGreatDoorS3Base
import Derived.Test.YtliikgffjphhjaaGreatDoorVmH
import Derived.Test.YtliikgffjphhjaaGreatDoorCards
import Derived.Test.YtliikgffjphhjaaGreatDoorTie
import Derived.Deep.DeepHandedRow
import Derived.Lib.LaidTab
import Derived.LaidHandle
import Derived.LaidSub
namespace Go.Vm.S3
open Go.Proofs Go.RowKit Go.ChangeShapes Go.WideShapes
open Go.Proofs.YtliikgffjphhjaaGreatDoor
set_option maxRecDepth 100000
theorem own : ownKnob Tryz.prog.godebug = none := by kernel_rfl
theorem laidOut : laidOutB Tryz.prog = true := by kernel_rfl
abbrev theLaid : List (String × DataW Unit) := [("math/bits.deBruijn32tab", Rows.laid_math_bits_deBruijn32tab), ("math/bits.deBruijn64tab", Rows.laid_math_bits_deBruijn64tab), ("internal/strconv.uint64pow10", Rows.laid_internal_strconv_uint64pow10), ("crumple/dummy.faults", Rows.laid_crumple_dummy_faults)]
theorem pow10_cells {W : World} (h : laidMetH Tryz.prog theLaid W) : Lib.TabIs Tryz.prog W "internal/strconv.uint64pow10" .u64 Lib.pow10Tab := by
 have h1 := (laidMetH_iff.1 h).1
 have e : (theLaid.filter fun x => x.2.handleName?.isNone) = [("math/bits.deBruijn32tab", Rows.laid_math_bits_deBruijn32tab), ("math/bits.deBruijn64tab", Rows.laid_math_bits_deBruijn64tab), ("internal/strconv.uint64pow10", Lib.tabData .u64 Lib.pow10Tab)] := by kernel_rfl
 rw [e] at h1
 obtain ⟨ps, ⟨g1, t1, cs1, f1, p1, q1, _, _, _, _, ⟨g2, t2, cs2, f2, p2, q2, _, _, _, _, ⟨g', t', cs, fuel, p, q, hg', ht', hvar, hd, _, _⟩, _⟩, _⟩, _⟩ := h1
 obtain rfl := Option.some.inj ((show Tryz.prog.globalNamed "internal/strconv.uint64pow10" = some 2 by kernel_rfl).symm.trans hg')
 obtain ⟨t, hty, n, u, ht, he, hce, hct⟩ : ∃ t, (Tryz.prog.globals[2]?).map (·.type) = some t ∧ ∃ n u, Tryz.prog.underlying t = some (.array n u) ∧ Tryz.prog.underlying u = some (.int .u64) ∧ Tryz.prog.cellsOf u = 1 ∧ Tryz.prog.cellsOf t = n :=
  ⟨313, by kernel_rfl, 20, 305, by kernel_rfl, by kernel_rfl, by kernel_rfl, by kernel_rfl⟩
 obtain rfl := Option.some.inj (hty.symm.trans ht')
 unfold Lib.TabIs
 rw [hvar, ← Lib.cells_of_tab ht he hce hct hd]
theorem trod_func {H : Type} {enc : TypeId × Value → H} {P : Program} {w : World} {base : Nat} {sp : Nat → Bool} {fuel : Nat} {t : TypeId} {cs : List Value} {x : DataW H × List MemPlace} {a b : Array TypeId} {c : Bool} (ht : P.underlying t = some (.func a b c))
  (h : DataW.trod enc P w base sp true fuel t cs = some x) : x.1 = .nil ∨ ∃ v, cs = [v] ∧ x.1 = .held (enc (t, v)) := by
 cases fuel with
 | zero => simp [DataW.trod] at h
 | succ n =>
  unfold DataW.trod at h
  rw [ht] at h
  split at h <;> simp_all
  all_goals first | (subst h; simp; done) | (obtain rfl := h; simp) | skip
theorem fault_el {W : World} {sp : Nat → Bool} {n : Nat} {cs : List Value} {x : DataW (List UInt8) × List MemPlace} {w : List UInt8} {b : UInt8} {r : List UInt8} {f : FuncId} {nm : String}
  (h : DataW.trod (funcToken Tryz.prog) Tryz.prog W 0 sp true n 275 cs = some x) (hx : x.1 = .agg [.lit (.string w), .held (b :: r)]) (hn : Tryz.prog.funcNamed nm = some f) (hb : nm.toUTF8.data.toList = b :: r) :
  cs = [.string ⟨w.toArray⟩, .func (.func f) #[] #[]] := by
 obtain ⟨xs, m, _, hxs, hl, hxl, hf⟩ := DataW.trod_struct Tryz.underlying275 h
 have hc : Tryz.prog.cellsOf 275 = 2 := by kernel_rfl
 rw [hc] at hl
 match cs, hl with
 | [u, v], _ =>
  match xs, hxl with
  | [y0, y1], _ =>
   have h0 : DataW.trod (funcToken Tryz.prog) Tryz.prog W 0 sp true m 9 (([u, v].drop 0).take (Tryz.prog.cellsOf 9)) = [y0, y1][0]? := hf 0 _ rfl
   have h1 : DataW.trod (funcToken Tryz.prog) Tryz.prog W 0 sp true m 273 (([u, v].drop 1).take (Tryz.prog.cellsOf 273)) = [y0, y1][1]? := hf 1 _ rfl
   have c9 : Tryz.prog.cellsOf 9 = 1 := by kernel_rfl
   have c273 : Tryz.prog.cellsOf 273 = 1 := by kernel_rfl
   rw [c9] at h0; rw [c273] at h1
   simp only [List.drop_zero, List.take_succ_cons, List.take_zero, List.drop_succ_cons, List.getElem?_cons_zero, List.getElem?_cons_succ] at h0 h1
   rw [hxs] at hx
   simp only [List.map_cons, List.map_nil, DataW.agg.injEq, List.cons.injEq, and_true] at hx
   obtain ⟨e0, e1⟩ := hx
   obtain ⟨s, hs, hy0, _⟩ := DataW.trod_string Tryz.underlying9 h0
   rw [hy0] at e0
   simp only [DataW.lit.injEq, Lit.string.injEq] at e0
   simp only [List.cons.injEq, and_true] at hs
   subst hs
   rcases trod_func Tryz.underlying273 h1 with e | ⟨v', hv, e⟩
   ·rw [e1] at e; cases e
   ·simp only [List.cons.injEq, and_true] at hv
    subst hv
    rw [e1] at e
    simp only [DataW.held.injEq] at e
    obtain ⟨f', fn, rfl, _, hfn, hnm⟩ := funcToken_tells e.symm
    have : fn.name = nm := by
     have h2 : fn.name.toUTF8.data.toList = nm.toUTF8.data.toList := hnm.trans hb.symm
     have h3 : fn.name.toUTF8 = nm.toUTF8 := by
      have := Array.toList_inj.1 h2
      cases h4 : fn.name.toUTF8; cases h5 : nm.toUTF8; rw [h4, h5] at this; simpa using this
     exact String.toByteArray_inj.1 h3
    rw [this, hn] at hfn
    simp only [Option.some.injEq] at hfn
    subst hfn
    subst e0
    rfl
def faultVs : List Value := [.string "missing".toUTF8, .func (.func 276) #[] #[], .string "uncalibrated".toUTF8, .func (.func 277) #[] #[], .string "failed".toUTF8, .func (.func 278) #[] #[], .string "old".toUTF8, .func (.func 279) #[] #[], .string "worn".toUTF8, .func (.func 280) #[] #[]]
theorem faults_cells {W : World} (h : laidMetH Tryz.prog theLaid W) : W.var? Tryz.prog "crumple/dummy.faults" = some faultVs.toArray := by
 obtain ⟨g, t, cs, fuel, p, hg, ht, hv, hd⟩ := laidMetH.funcs (d := .agg _) h (List.mem_cons_of_mem _ (List.mem_cons_of_mem _ (List.mem_cons_of_mem _ (List.mem_singleton.2 rfl))))
 obtain rfl := Option.some.inj ((show Tryz.prog.globalNamed "crumple/dummy.faults" = some 0 by kernel_rfl).symm.trans hg)
 obtain rfl := Option.some.inj ((show (Tryz.prog.globals[0]?).map (·.type) = some 276 by kernel_rfl).symm.trans ht)
 cases fuel with
 | zero => simp [DataW.trod] at hd
 | succ fuel =>
  have hc : Tryz.prog.cellsOf 275 = 2 := by kernel_rfl
  have hc2 : Tryz.prog.cellsOf 276 = 10 := by kernel_rfl
  simp only [DataW.trod, Tryz.underlying276, hc, hc2] at hd
  split at hd
  ·rename_i hl
   obtain ⟨xs, hm, hx⟩ := Option.map_eq_some_iff.1 hd
   have hxs := congrArg Prod.fst hx
   simp only [DataW.funcsOut, DataW.funcsOutAll, DataW.agg.injEq] at hxs
   have hxl : xs.length = 5 := by simpa using Lib.mapM_length hm
   match xs, hxl with
   | [y0, y1, y2, y3, y4], _ =>
    simp only [List.map_cons, List.map_nil, List.cons.injEq, and_true] at hxs
    obtain ⟨e0, e1, e2, e3, e4⟩ := hxs
    have at_ : ∀ i y, [y0, y1, y2, y3, y4][i]? = some y → i < 5 → DataW.trod (funcToken Tryz.prog) Tryz.prog W 0 (fun _ => true) true fuel 275 ((cs.toList.drop (i * 2)).take 2) = some y := by
     intro i y hy hi
     obtain ⟨b, hb, hf⟩ := Lib.mapM_at hm i i (by simp [hi])
     rw [hy] at hb
     simp only [Option.some.injEq] at hb; subst hb
     exact hf
    have q0 := fault_el (at_ 0 _ rfl (by decide)) e0 (f := 276) (nm := "crumple/dummy.faults$1") (by kernel_rfl) (by kernel_rfl)
    have q1 := fault_el (at_ 1 _ rfl (by decide)) e1 (f := 277) (nm := "crumple/dummy.faults$2") (by kernel_rfl) (by kernel_rfl)
    have q2 := fault_el (at_ 2 _ rfl (by decide)) e2 (f := 278) (nm := "crumple/dummy.faults$3") (by kernel_rfl) (by kernel_rfl)
    have q3 := fault_el (at_ 3 _ rfl (by decide)) e3 (f := 279) (nm := "crumple/dummy.faults$4") (by kernel_rfl) (by kernel_rfl)
    have q4 := fault_el (at_ 4 _ rfl (by decide)) e4 (f := 280) (nm := "crumple/dummy.faults$5") (by kernel_rfl) (by kernel_rfl)
    rw [hv]
    congr 1
    apply Array.toList_inj.1
    generalize cs.toList = l at *
    match l, hl with
    | [c0, c1, c2, c3, c4, c5, c6, c7, c8, c9], _ =>
     simp only [Nat.zero_mul, Nat.reduceMul, List.drop_zero, List.take_succ_cons, List.take_zero, List.drop_succ_cons, List.cons.injEq, and_true] at q0 q1 q2 q3 q4
     obtain ⟨rfl, rfl⟩ := q0
     obtain ⟨rfl, rfl⟩ := q1
     obtain ⟨rfl, rfl⟩ := q2
     obtain ⟨rfl, rfl⟩ := q3
     obtain ⟨rfl, rfl⟩ := q4
     rfl
  ·cases hd
theorem var_heap {P : Program} {W : World} {n : String} {g : Nat} {cs : Array Value} (hg : P.globalNamed n = some g) (h : W.var? P n = some cs) : ∃ ty fr, W.heap[g]? = some (.cells cs ty fr) := by
 unfold World.var? at h
 rw [hg] at h
 simp only [Option.bind_some] at h
 split at h
 ·rename_i c ty fr hh
  simp only [Option.some.injEq] at h; subst h
  exact ⟨ty, fr, hh⟩
 ·cases h
theorem rep_u64 {M : Mem} : ∀ (l : List Int), RepL M (l.map fun (n : Int) => AV.v (.int .u64 n)) (l.map fun z => Value.int .u64 z)
 | [] => by simp
 | n :: l => by rw [List.map_cons, List.map_cons, RepL.cons_iff]; exact ⟨_, _, rfl, by unfold Rep; rfl, rep_u64 l⟩
theorem glob_ok {W : World} (h : laidMetH Tryz.prog theLaid W) : GlobOk (mkCx Tryz.prog (Tabs.bare globA) 0 (fun _ => .tree) (fun _ _ => none)) (memOf W) := by
 intro g cs hg
 have hg : globA g = some cs := hg
 unfold globA at hg
 split at hg
 ·simp only [Option.some.injEq] at hg; subst hg
  obtain ⟨ty, fr, hh⟩ := var_heap (show Tryz.prog.globalNamed "crumple/dummy.faults" = some 0 by kernel_rfl) (faults_cells h)
  refine ⟨(Array.getElem?_eq_some_iff.1 hh).1, _, ty, fr, hh, ?_⟩
  unfold faultVs faultsA
  simp only [RepL.cons_iff, RepL.nil_iff]
  have s : ∀ x : Value, Rep (memOf W).bare (.v x) x := fun x => by unfold Rep; rfl
  have fn : ∀ f : FuncId, Rep (memOf W).bare (.fn (.func f) [] []) (.func (.func f) #[] #[]) := fun f => by unfold Rep; exact ⟨[], [], rfl, by simp, by simp⟩
  exact ⟨_, _, rfl, s _, _, _, rfl, fn _, _, _, rfl, s _, _, _, rfl, fn _, _, _, rfl, s _, _, _, rfl, fn _, _, _, rfl, s _, _, _, rfl, fn _, _, _, rfl, s _, _, _, rfl, fn _, rfl⟩
 ·simp only [Option.some.injEq] at hg; subst hg
  obtain ⟨ty, fr, hh⟩ := var_heap (show Tryz.prog.globalNamed "internal/strconv.uint64pow10" = some 2 by kernel_rfl) (pow10_cells h)
  exact ⟨(Array.getElem?_eq_some_iff.1 hh).1, _, ty, fr, hh, rep_u64 _⟩
 ·cases hg
end Go.Vm.S3
