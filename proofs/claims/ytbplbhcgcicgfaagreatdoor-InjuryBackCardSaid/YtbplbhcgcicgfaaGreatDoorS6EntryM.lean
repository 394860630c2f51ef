/- Rows that list six variables, and name one whose value is not known. -/
import Derived.Test.YtbplbhcgcicgfaaGreatDoorS6Entry
import Derived.Test.YtbplbhcgcicgfaaGreatDoorS6YZ
import Derived.Shelf.Vars
namespace Go.Vm.S6
open Go.Proofs Go.RowKit Go.ChangeShapes Go.WideShapes
open Go.Proofs.YtbplbhcgcicgfaaGreatDoor
set_option maxRecDepth 100000
abbrev theLaid6 : List (String × DataW Unit) := [("math/bits.deBruijn32tab", Rows.laid_math_bits_deBruijn32tab), ("math/bits.deBruijn64tab", Rows.laid_math_bits_deBruijn64tab), ("internal/strconv.uint64pow10", Rows.laid_internal_strconv_uint64pow10), ("unicode/utf8.acceptRanges", Rows.laid_unicode_utf8_acceptRanges), ("crumple/injury.sides", Rows.laid_crumple_injury_sides), ("unicode/utf8.first", Rows.laid_unicode_utf8_first)]
def keep4 (x : String × DataW Unit) : Bool := !(x.1 == "unicode/utf8.acceptRanges" || x.1 == "unicode/utf8.first")
theorem laid4 {W : World} (h : laidMetH Tryz.prog theLaid6 W) : laidMetH Tryz.prog theLaid W := by
  have h1 := h.filter keep4
  have e : theLaid6.filter keep4 = theLaid := by kernel_rfl
  rw [e] at h1
  exact h1
theorem one_lt : 1 < Tryz.prog.globals.size := of_decide_eq_true (by kernel_rfl)
theorem row_one : ((begin Tryz.prog (fun _ _ => 0) default).world.heap[1]?).bind Obj.row? = some (#[.int .i64 0], 3) := by kernel_rfl
theorem cellM {W : World} (h : W.ShapedOpen Tryz.prog) : ∃ m, W.cell? ⟨1, 0, none⟩ = some (.int .i64 m) ∧ ∃ cs ty fr, W.heap[1]? = some (.cells cs ty fr) ∧ cs.size = 1 := by
  obtain ⟨m, hm⟩ := cell_of_shapedOpen_int (t := 3) (zero := #[.int .i64 0]) h one_lt row_one rfl (by kernel_rfl) (by kernel_rfl) Tryz.underlying3
  obtain ⟨cs, hh, hz, _⟩ := h.1 1 _ _ one_lt row_one
  exact ⟨m, hm, cs, _, _, hh, hz⟩
theorem glob_okM {W : World} {m : Int} (h : laidMetH Tryz.prog theLaid6 W) (hm : W.cell? ⟨1, 0, none⟩ = some (.int .i64 m)) (hs : ∃ cs ty fr, W.heap[1]? = some (.cells cs ty fr) ∧ cs.size = 1) :
    GlobOk (mkCx Tryz.prog (Tabs.bare (globM m)) 0 (fun _ => .tree) (fun _ _ => none)) (memOf W) := by
  intro g cs hg
  by_cases h1 : g = 1
  · subst h1
    have hg : some [intA m] = some cs := hg
    simp only [Option.some.injEq] at hg; subst hg
    obtain ⟨cs, ty, fr, hh, hz⟩ := hs
    refine ⟨(Array.getElem?_eq_some_iff.1 hh).1, cs, ty, fr, hh, ?_⟩
    have hc : cs[0]? = some (.int .i64 m) := by
      unfold World.cell? at hm
      simpa [hh] using hm
    have hl : cs.toList = [.int .i64 m] := by
      match hcl : cs.toList, (by simpa using hz : cs.toList.length = 1) with
      | [a], _ =>
        have : cs.toList[0]? = some (.int .i64 m) := by rw [Array.getElem?_toList]; exact hc
        rw [hcl] at this
        simpa using this
    rw [hl]
    simp only [RepL.cons_iff, RepL.nil_iff]
    exact ⟨_, _, rfl, by unfold Rep; rfl, rfl⟩
  · refine glob_ok (laid4 h) g cs ?_
    have hg : globM m g = some cs := hg
    show globA g = some cs
    unfold globM at hg
    split at hg
    · exact absurd rfl h1
    · exact hg
end Go.Vm.S6
