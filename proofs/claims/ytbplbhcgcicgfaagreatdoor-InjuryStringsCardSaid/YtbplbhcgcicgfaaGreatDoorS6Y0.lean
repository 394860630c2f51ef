/- Strings: the library's functions. -/
import Derived.Test.YtbplbhcgcicgfaaGreatDoorS6Base
import Derived.Test.YtbplbhcgcicgfaaGreatDoorS6PX
import Derived.Test.YtbplbhcgcicgfaaGreatDoorVmH
import Derived.Test.YtbplbhcgcicgfaaGreatDoorVmStr
namespace Go.Vm.S6
open Go.Proofs Go.RowKit Go.Lib
theorem enters173 : Enters Tryz.prog 173 := enters_of Tryz.func173 rfl (by decide)
theorem enters153 : Enters Tryz.prog 153 := enters_of Tryz.func153 rfl (by decide)
def idxG : List AV → Option AV := sp2 strC (oneC (u8A 10) (fun a => match a with | .v (.int .u8 10) => true | _ => false) (fun b hb => by split at hb; exact Weak.rfl; cases hb) rfl) fun s _ => some (intA (indexByte s.data.toList 10))
theorem h173 : Holds 173 idxG := holds2 fun s _ r hF => ⟨enters173, by
  intro M ys hlt hr _
  simp only [Option.some.injEq] at hF
  subst hF
  simp only [RepL.cons_iff, RepL.nil_iff] at hr
  obtain ⟨y1, _, rfl, h1, y2, _, rfl, h2, rfl⟩ := hr
  have h1 : Rep M.bare (strA s) y1 := h1
  have h2 : Rep M.bare (u8A 10) y2 := h2
  unfold Rep at h1 h2
  subst h1; subst h2
  rw [callsIn_one]
  refine (Tryz.strings_IndexByte s 10 M.w).mono ?_
  rintro e w' ⟨rfl, rfl⟩
  exact ⟨_, rfl, postK_plain hlt (Below.refl _ _)⟩⟩
/-! ### A variable whose value is not known -/
def globM (m : Int) : Nat → Option (List AV)
  | 1 => some [intA m]
  | n => globA n
abbrev HoldsM (m : Int) (f : FuncId) (g : List AV → Option AV) : Prop := Holds1 Tryz.prog (globM m) f g
abbrev OkM (m : Int) (S : Specs) : Prop := SpecsOk Tryz.prog (globM m) S
abbrev CmpM (m : Int) (f : FuncId) (l : List AV) (r : AV) : Prop := Comp Tryz.prog (globM m) f l r
theorem globOk_m {m : Int} {M : Mem} (h : GlobOk (mkCx Tryz.prog (Tabs.bare (globM m)) 0 (fun _ => .tree) (fun _ _ => none)) M) : GlobOk (mkCx Tryz.prog (Tabs.bare globA) 0 (fun _ => .tree) (fun _ _ => none)) M := fun g cs hg => by
  refine h g cs ?_
  have hg : globA g = some cs := hg
  show globM m g = some cs
  unfold globM
  split
  · cases hg
  · exact hg
theorem Holds.m {f : FuncId} {g : List AV → Option AV} (h : Holds f g) (m : Int) : HoldsM m f g := fun l r hr => ⟨(h l r hr).1, fun M ys h1 h2 h3 => (h l r hr).2 M ys h1 h2 (globOk_m h3)⟩
theorem Ok.m {S : Specs} (h : Ok S) (m : Int) : OkM m S := fun f g hg => Holds.m (h f g hg) m
/-- The words of a string. -/
def wordsB (s : ByteArray) : List ByteArray := (splitL 32 s.data.toList).map fun l => ⟨l.toArray⟩
theorem words_split (s : ByteArray) : splitB ⟨#[32]⟩ 0 (countB s ⟨#[32]⟩) s = wordsB s := by
  have h := splitB_data ⟨#[32]⟩ 0 (countB s ⟨#[32]⟩) s
  have h2 : splitK [32] 0 (countB s ⟨#[32]⟩) s.data.toList = splitL 32 s.data.toList := splitK_one 32 _ s.data.toList (Nat.lt_succ_self _)
  have h3 : (splitB ⟨#[32]⟩ 0 (countB s ⟨#[32]⟩) s).map (·.data.toList) = splitL 32 s.data.toList := h.trans h2
  unfold wordsB
  rw [← h3, List.map_map]
  have : ∀ l : List ByteArray, l = l.map ((fun l => (⟨l.toArray⟩ : ByteArray)) ∘ fun x => x.data.toList) := fun l => by
    refine (List.map_id l).symm.trans (List.map_congr_left fun x _ => ?_)
    simp
  exact this _
theorem repL_strs {M : Mem} : ∀ ws : List ByteArray, RepL M (ws.map strC.enc) (ws.map Value.string)
  | [] => by show RepL M [] []; rw [RepL.nil_iff]
  | w :: ws => by
    show RepL M (strA w :: ws.map strC.enc) (Value.string w :: ws.map Value.string)
    rw [RepL.cons_iff]
    exact ⟨_, _, rfl, by unfold Rep; rfl, repL_strs ws⟩
def splG : List AV → Option AV := sp2 strC (oneC (strA ⟨#[32]⟩) (fun a => match a with | .v (.string s) => decide (s = ⟨#[32]⟩) | _ => false) (fun b hb => by split at hb; rw [of_decide_eq_true hb]; exact Weak.rfl; cases hb) rfl) fun s _ => bif Nat.blt s.size 4294967281 then some (slA strC 1 (wordsB s)) else none
theorem h153 (m : Int) : HoldsM m 153 splG := holds2 fun s _ r hF => ⟨enters153, by
  intro M ys hlt hr hg
  cases hb : Nat.blt s.size 4294967281 with
  | false => simp [hb] at hF
  | true =>
    simp only [hb, cond_true, Option.some.injEq] at hF
    subst hF
    simp only [RepL.cons_iff, RepL.nil_iff] at hr
    obtain ⟨y1, _, rfl, h1, y2, _, rfl, h2, rfl⟩ := hr
    have h1 : Rep M.bare (strA s) y1 := h1
    have h2 : Rep M.bare (strA ⟨#[32]⟩) y2 := h2
    unfold Rep at h1 h2
    subst h1; subst h2
    obtain ⟨hi, arr, ty, fr, hh, hra⟩ := hg 1 [intA m] rfl
    have hm : M.w.cell? ⟨1, 0, none⟩ = some (.int .i64 m) := by
      simp only [RepL.cons_iff, RepL.nil_iff] at hra
      obtain ⟨z, _, he, hz, rfl⟩ := hra
      unfold Rep at hz
      subst hz
      unfold World.cell?
      simp only [hh]
      rw [← Array.getElem?_toList, he]; rfl
    have hcnt : countB s ⟨#[32]⟩ + 1 = (wordsB s).length := by
      have h := splitB_all ⟨#[32]⟩ (by decide) 0 _ s rfl
      rw [← words_split, h]
    rw [callsIn_one]
    refine (Tryz.strings_Split s ⟨#[32]⟩ m M.w (Nat.le_of_ble_eq_true hb) hm (by decide)).mono ?_
    rintro e w' ⟨rfl, rfl⟩
    rw [words_split, hcnt]
    refine ⟨_, rfl, { M.bare with w := M.w.alloc (.cells ((wordsB s).map Value.string).toArray 9), imm := fun b => M.imm b ∨ b = M.w.heap.size }, rfl, ?_, rfl, ?_, ?_, ?_, Below.alloc (Below.refl _ _) (Nat.le_refl _) _⟩
    · exact ⟨fun _ _ h => (by cases h), fun _ h => .inl h, fun b h => Below.heap_alloc _ _ _ (hlt b h), rfl⟩
    · rintro b (h | rfl)
      · exact .inl h
      · exact .inr (Nat.le_refl _)
    · rintro b (h | rfl)
      · have := hlt b h; simp; omega
      · simp
    · show Rep _ (.rsl 1 ((wordsB s).map strC.enc) false) _
      unfold Rep
      refine ⟨some ⟨M.w.heap.size, 0, none⟩, (wordsB s).length, (wordsB s).map Value.string, by rw [List.length_map], by rw [List.length_map]; exact Nat.le_refl _, ?_, ?_, .inl ⟨_, _, rfl, ?_⟩, fun h => by cases h⟩
      · exact repL_strs _
      · intro y hy
        obtain ⟨x, _, rfl⟩ := List.mem_map.1 hy
        rfl
      · rw [flat_strings]
        intro i x hx
        refine ⟨.inr rfl, ?_⟩
        unfold World.cell?
        simp only [Nat.zero_add]
        rw [show (M.w.alloc (.cells ((wordsB s).map Value.string).toArray 9)).heap[M.w.heap.size]? = some (.cells ((wordsB s).map Value.string).toArray 9) by show (M.w.heap.push _)[M.w.heap.size]? = _; simp]
        simpa using hx⟩
end Go.Vm.S6
