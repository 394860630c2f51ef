/- Maps whose keys are signs: two strings. -/
import Derived.Test.YtliikgffjphhjaaGreatDoorS3T8
import Derived.Test.YtliikgffjphhjaaGreatDoorVmG
namespace Go.Vm.S3
open Go.Proofs Go.RowKit
set_option maxRecDepth 100000
theorem checkSg (a b : ByteArray) (e : Bool) : pureRun Tryz.prog (Instr.checkKey e 10000 122 (.agg #[.string a, .string b])) = some () := by cases e <;> kernel_rfl
theorem eqStr (d : Nat) (a b : ByteArray) : pureRun Tryz.prog (Op.equalIn (d + 1) 9 (.string a) (.string b)) = some (a == b) := by kernel_rfl
theorem eqSg (a b c d : ByteArray) : pureRun Tryz.prog (Op.equal 122 (.agg #[.string a, .string b]) (.agg #[.string c, .string d])) = some ((a == c) && (b == d)) := by
  show pureRun Tryz.prog (Op.equalIn (9998 + 2) 122 (.agg #[.string a, .string b]) (.agg #[.string c, .string d])) = _
  have hfs : Tryz.prog.fieldsOf 122 = #[⟨"Step", 9, 0, false, "", "", 0⟩, ⟨"Person", 9, 1, false, "", "", 16⟩] := by unfold Program.fieldsOf; rw [Tryz.underlying122]
  have hst : Tryz.prog.stoodInHeld 122 = false := by kernel_rfl
  have px : ∀ u v : ByteArray, pureRun Tryz.prog (part 9 #[.string u, .string v] 0) = some (.string u) := fun u v => by kernel_rfl
  have py : ∀ u v : ByteArray, pureRun Tryz.prog (part 9 #[.string u, .string v] 1) = some (.string v) := fun u v => by kernel_rfl
  rw [pureRun_struct (9998 + 1) 122 #[.string a, .string b] #[.string c, .string d] (by rw [hfs]; exact Tryz.underlying122) hst, hfs]
  have n1 : ("Step" : String) ≠ "_" := by decide
  have n2 : ("Person" : String) ≠ "_" := by decide
  simp only [Op.eqFields, n1, n2, ne_eq, not_false_eq_true, if_true, pureRun_bind, px, py, Option.bind_some, eqStr, pureRun_ite, pureRun_pure]
  cases a == c <;> cases b == d <;> rfl
def sgEq (x y : ByteArray × ByteArray) : Bool := bseq x.1 y.1 && bseq x.2 y.2
def findSg (s : ByteArray × ByteArray) : List (ByteArray × ByteArray) → Nat → Option Nat
  | [], _ => none
  | a :: r, i => bif sgEq s a then some i else findSg s r (i + 1)
theorem findSg_any (s : ByteArray × ByteArray) : ∀ (l : List (ByteArray × ByteArray)) (i : Nat), (findSg s l i).isSome = l.any (sgEq s)
  | [], _ => rfl
  | a :: r, i => by
    unfold findSg
    rw [List.any_cons]
    cases sgEq s a with
    | true => rfl
    | false => simp only [cond_false, Bool.false_or]; exact findSg_any s r (i + 1)
theorem findSg_lt (s : ByteArray × ByteArray) : ∀ {l : List (ByteArray × ByteArray)} {i j : Nat}, findSg s l i = some j → j < i + l.length
  | [], i, j, h => by simp [findSg] at h
  | a :: r, i, j, h => by
    unfold findSg at h
    cases hb : sgEq s a with
    | true => rw [hb] at h; simp only [cond_true, Option.some.injEq] at h; subst h; simp
    | false => rw [hb] at h; have := findSg_lt s (l := r) h; simp only [List.length_cons]; omega
theorem findK_sg {C : Cx} (hP : C.P = Tryz.prog) {fs : Array Field} (s : ByteArray × ByteArray) : ∀ (ks : List (ByteArray × ByteArray)) (i : Nat), findK (eqK C 122 (.struct fs) (.agg #[.string s.1, .string s.2])) (ks.map sgA) i = some (findSg s ks i)
  | [], _ => rfl
  | a :: r, i => by
    show (match pureRun C.P (Op.equal 122 (.agg #[.string s.1, .string s.2]) (.agg #[.string a.1, .string a.2])) with | some true => some (some i) | some false => findK (eqK C 122 (.struct fs) (.agg #[.string s.1, .string s.2])) (r.map sgA) (i + 1) | none => none) = _
    rw [hP, eqSg, bseq_eq, bseq_eq]
    unfold findSg sgEq
    cases bseq s.1 a.1 && bseq s.2 a.2 with
    | true => rfl
    | false => exact findK_sg hP s r (i + 1)
def sgMapB (C : Cx) : Bool :=
  match C.ty 225, C.ty 122, C.ty 4 with
  | some ti, some kti, some eti => (match ti.desc with | .map a b => Nat.beq a 122 && Nat.beq b 4 | _ => false) && (match kti.desc with | .struct _ => true | _ => false) && (match eti.zero with | some z => isFalse z | none => false)
  | _, _, _ => false
theorem sgMap (S : Specs) : ∃ ti kti eti fs, (CS S).ty 225 = some ti ∧ ti.desc = .map 122 4 ∧ (CS S).ty 122 = some kti ∧ kti.desc = .struct fs ∧ (CS S).ty 4 = some eti ∧ eti.zero = some (.bool false) := by
  have h : sgMapB (CS S) = true := by kernel_rfl
  unfold sgMapB at h
  split at h
  · rename_i ti kti eti h1 h2 h3
    simp only [Bool.and_eq_true] at h
    obtain ⟨⟨a, b⟩, c⟩ := h
    split at a
    · rename_i a' b' hd
      simp only [Bool.and_eq_true] at a
      have e1 := Nat.eq_of_beq_eq_true a.1
      have e2 := Nat.eq_of_beq_eq_true a.2
      subst e1; subst e2
      split at b
      · rename_i fs hk
        split at c
        · rename_i z' hz'
          exact ⟨ti, kti, eti, fs, h1, hd, h2, hk, h3, by rw [hz', isFalse_eq _ c]⟩
        · cases c
      · cases b
    · cases a
  · cases h
theorem keySg (S : Specs) {kti : TI} {fs : Array Field} (h3 : (CS S).ty 122 = some kti) (h4 : kti.desc = .struct fs) (ks : List (ByteArray × ByteArray)) (b : Bool) (s : ByteArray × ByteArray) :
    keyAt (CS S) 122 (ks.map sgA) b (.agg #[.string s.1, .string s.2]) = some (findSg s ks 0) := by
  unfold keyAt
  rw [h3]
  simp only [h4, keyKind, cond_false]
  have hc : pureRun (CS S).P (Instr.checkKey b 10000 122 (.agg #[.string s.1, .string s.2])) = some () := checkSg s.1 s.2 b
  rw [hc]
  exact findK_sg rfl s ks 0
theorem lookSg (S : Specs) (l : List (ByteArray × ByteArray)) (s : ByteArray × ByteArray) : alookup (CS S) .leaf 225 (.rmp (l.map sgA) (l.map fun _ => boolA true)) (sgA s) false = some (boolA (l.any (sgEq s))) := by
  obtain ⟨ti, kti, eti, fs, h1, h2, h3, h4, h5, h6⟩ := sgMap S
  have hk := keySg S h3 h4 l (l.map sgA).isEmpty s
  obtain ⟨d, _, _, _, _⟩ := ti
  obtain ⟨_, _, _, _, z'⟩ := eti
  simp only at h2 h6
  subst h2; subst h6
  unfold alookup
  rw [h1]
  show (match (CS S).ty 4, keyAt (CS S) 122 (l.map sgA) (l.map sgA).isEmpty (.agg #[.string s.1, .string s.2]) with | some _, some (some j) => ((l.map fun _ => boolA true)[j]?).map fun v => v | some { zero := some z, .. }, some none => some (ofV z) | _, _ => none) = _
  rw [h5, hk, ← findSg_any s l 0]
  cases hf : findSg s l 0 with
  | none => rfl
  | some j =>
    have hj := findSg_lt s hf
    rw [Nat.zero_add] at hj
    have : (l.map fun _ => boolA true)[j]? = some (boolA true) := by rw [List.getElem?_map, List.getElem?_eq_getElem hj]; rfl
    simp only [this]; rfl
theorem addSg (S : Specs) {l : List (ByteArray × ByteArray)} {vs : List AV} {s : ByteArray × ByteArray} {v : AV} (hn : l.any (sgEq s) = false) :
    mapUpd (CS S) 225 (l.map sgA) vs (sgA s) v = some ((l ++ [s]).map sgA, vs ++ [v]) := by
  obtain ⟨ti, kti, eti, fs, h1, h2, h3, h4, h5, h6⟩ := sgMap S
  have hk := keySg S h3 h4 l false s
  obtain ⟨d, _, _, _, _⟩ := ti
  simp only at h2
  subst h2
  have hf : findSg s l 0 = none := by
    cases hq : findSg s l 0 with
    | none => rfl
    | some j =>
      have := findSg_any s l 0
      rw [hq, hn] at this
      cases this
  unfold mapUpd
  rw [h1]
  show (match keyAt (CS S) 122 (l.map sgA) false (.agg #[.string s.1, .string s.2]) with | some (some j) => _ | some none => some (l.map sgA ++ [sgA s], vs ++ [v]) | none => none) = _
  rw [hk, hf]
  simp
end Go.Vm.S3
