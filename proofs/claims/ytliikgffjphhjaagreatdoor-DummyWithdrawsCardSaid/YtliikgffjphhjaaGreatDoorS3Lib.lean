/- The library's functions that the evaluator meets by contract: strings.Join, strconv.Itoa. -/
import Derived.Test.YtliikgffjphhjaaGreatDoorVmG
import Derived.Test.YtliikgffjphhjaaGreatDoorVmJoin
namespace Go.Vm.S3
open Go.Proofs Go.RowKit Go.Sort
def joined (xs : List ByteArray) (sep : ByteArray) : ByteArray := ⟨(Lib.join (xs.map (·.data.toList)) sep.data.toList).toArray⟩
def joinF (xs : List ByteArray) (sep : ByteArray) : Option AV := bif Nat.ble (Lib.join (xs.map (·.data.toList)) sep.data.toList).length 140737488355328 && Nat.ble xs.length 140737488355328 then some (sA (joined xs sep)) else none
def joinG : List AV → Option AV := sp2 (listC strC 1) strC joinF
def itoaB (n : Int) : ByteArray := ⟨(Lib.itoa n).toArray⟩
def itoaG : List AV → Option AV := sp1 intC fun n => bif decide (-9223372036854775808 ≤ n) && decide (n ≤ 9223372036854775807) then some (sA (itoaB n)) else none
def faultsA : List AV := [.v (.string "missing".toUTF8), .fn (.func 276) [] [], .v (.string "uncalibrated".toUTF8), .fn (.func 277) [] [], .v (.string "failed".toUTF8), .fn (.func 278) [] [], .v (.string "old".toUTF8), .fn (.func 279) [] [], .v (.string "worn".toUTF8), .fn (.func 280) [] []]
def pow10A : List AV := Lib.pow10Tab.map fun (n : Int) => .v (.int .u64 n)
def globA : Nat → Option (List AV)
 | 0 => some faultsA
 | 2 => some pow10A
 | _ => none
theorem strs_rep {M : Mem} : ∀ {xs : List ByteArray} {ys : List Value}, RepL M (xs.map strC.enc) ys → ys = xs.map Value.string
 | [], ys, hr => by rw [List.map_nil, RepL.nil_iff] at hr; exact hr
 | x :: xs, ys, hr => by
  rw [List.map_cons, RepL.cons_iff] at hr
  obtain ⟨z, zs, rfl, h1, h2⟩ := hr
  have h1 : Rep M (sA x) z := h1
  unfold Rep at h1
  rw [h1, strs_rep h2]; rfl
theorem flat_strings (xs : List ByteArray) : flat (xs.map Value.string) = xs.map Value.string := by
 induction xs with
 | nil => rfl
 | cons x xs ih => simp only [List.map_cons, flat, List.flatMap_cons] at ih ⊢; rw [ih]; rfl
theorem postK_plain {M : Mem} (hlt : ∀ b, M.imm b → b < M.w.heap.size) {w' : World} (hb : Below M.w.heap.size M.w w') {x : Value} : PostK M.bare (.v x) x w' :=
 ⟨{ M.bare with w := w' }, rfl, ⟨fun _ _ h => (by cases h), fun _ h => h, fun b h => hb.block b (hlt b h), rfl⟩, rfl, fun _ h => .inl h, fun b h => Nat.lt_of_lt_of_le (hlt b h) hb.size, by unfold Rep; rfl, hb⟩
theorem enters161 : Enters Tryz.prog 161 := by
 refine enters_of Tryz.func161 rfl ?_
 decide
theorem join_holds : Holds1 Tryz.prog globA 161 joinG := holds2 fun xs sep r hF => ⟨enters161, by
 intro M ys hlt hr _
 unfold joinF at hF
 generalize hc : (_ && _) = c at hF
 cases c with
 | false => simp at hF
 | true =>
  simp only [cond_true, Option.some.injEq] at hF
  subst hF
  simp only [Bool.and_eq_true] at hc
  simp only [RepL.cons_iff, RepL.nil_iff] at hr
  obtain ⟨y1, _, rfl, h1, y2, _, rfl, h2, rfl⟩ := hr
  have h1 : Rep M.bare (.rsl 1 (xs.map strC.enc) false) y1 := h1
  have h2 : Rep M.bare (sA sep) y2 := h2
  unfold Rep at h1 h2
  obtain ⟨ao, cap, zs, rfl, hcap, hes, hsz, hrow, _⟩ := h1
  have hzs := strs_rep hes
  subst hzs
  rw [flat_strings] at hrow
  subst h2
  rw [List.length_map] at hcap ⊢
  rw [callsIn_one]
  have none' : xs = [] → Calls Tryz.prog 161 #[.slice ao xs.length cap, .string sep] M.w (fun e w' => ∃ v, e = .returned v ∧ PostK M.bare (sA (joined xs sep)) v w') := by
   intro hx
   subst hx
   refine (Tryz.strings_Join_none ao cap sep M.w).mono ?_
   rintro e w' ⟨rfl, rfl⟩
   exact ⟨_, rfl, postK_plain hlt (Below.refl _ _)⟩
  rcases hrow with ⟨b, o, rfl, hrow⟩ | h0
  rotate_left
  ·exact none' (List.length_eq_zero_iff.1 (by omega))
  have hcells : ∀ (j : Nat) x, xs[j]? = some x → M.w.cell? ⟨b, o + j, none⟩ = some (.string x) := fun j x hx => (hrow j _ (by rw [List.getElem?_map, hx]; rfl)).2
  cases xs with
  | nil => exact none' rfl
  | cons x xs =>
   have himm : M.imm b := (hrow 0 (.string x) rfl).1
   refine (Tryz.strings_Join b o cap (x :: xs) sep M.w hcells (hlt b himm) (Nat.le_of_ble_eq_true hc.2) hcap (Nat.le_of_ble_eq_true hc.1)).mono ?_
   rintro e w' ⟨rfl, hb⟩
   exact ⟨_, rfl, postK_plain hlt hb⟩⟩
theorem enters163 : Enters Tryz.prog 163 := by
 refine enters_of Tryz.func163 rfl ?_
 decide
theorem pow10_rep {M : Mem} : ∀ {l : List Int} {ys : List Value}, RepL M (l.map fun (n : Int) => AV.v (.int .u64 n)) ys → ys = l.map fun z => Value.int .u64 z
 | [], ys, h => by rw [List.map_nil, RepL.nil_iff] at h; exact h
 | n :: l, ys, h => by
  rw [List.map_cons, RepL.cons_iff] at h
  obtain ⟨z, zs, rfl, h1, h2⟩ := h
  unfold Rep at h1
  rw [h1, pow10_rep h2]; rfl
theorem below_grow (w : World) (os : Array Obj) : Below w.heap.size w (grow w os) :=
 ⟨rfl, rfl, rfl, by simp [grow], fun b hb => by simp only [grow]; rw [Array.getElem?_append_left hb]⟩
theorem below_drewN (w : World) (n : Nat) : Below w.heap.size w (w.drewN n) := ⟨rfl, rfl, rfl, Nat.le_refl _, fun _ _ => rfl⟩
set_option maxRecDepth 100000 in
theorem itoa_holds : Holds1 Tryz.prog globA 163 itoaG := holds1 fun n r h => ⟨enters163, by
 intro M ys hlt hr hglob
 generalize hc : (_ && _) = c at h
 cases c with
 | false => simp at h
 | true =>
  simp only [cond_true, Option.some.injEq] at h
  subst h
  simp only [Bool.and_eq_true, decide_eq_true_eq] at hc
  simp only [RepL.cons_iff, RepL.nil_iff] at hr
  obtain ⟨y1, _, rfl, h1, rfl⟩ := hr
  have h1 : Rep M.bare (iA n) y1 := h1
  unfold Rep at h1
  subst h1
  rw [callsIn_one]
  obtain ⟨_, arr, ty, fr, hh, hrep⟩ := hglob 2 pow10A (by rfl)
  have harr := pow10_rep hrep
  refine (Any.strconv_Itoa Tryz.laysM171 n hc.1 hc.2 M.w ?_).mono ?_
  ·unfold Lib.TabIs World.var?
   refine (congrArg (fun o => Option.bind o _) (show Tryz.prog.globalNamed _ = some 2 by kernel_rfl)).trans ?_
   simp only [Option.bind_some, hh]
   rw [← harr]
  ·rintro e w' ⟨rfl, k, os, rfl⟩
   exact ⟨_, rfl, postK_plain hlt ((below_drewN M.w k).trans ((below_grow (M.w.drewN k) os)))⟩⟩
end Go.Vm.S3
