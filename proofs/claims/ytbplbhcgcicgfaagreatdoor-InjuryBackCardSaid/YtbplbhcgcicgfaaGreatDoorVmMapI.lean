/- Maps whose keys are integers. -/
import Derived.Test.YtbplbhcgcicgfaaGreatDoorVmH
namespace Go.Vm
def findZ (s : Int) : List Int → Nat → Option Nat
  | [], _ => none
  | a :: r, i => bif s == a then some i else findZ s r (i + 1)
theorem findK_int {C : Cx} {kt : TypeId} (s : Int) : ∀ (ks : List Int) (i : Nat), findK (eqK C kt (.int .i64) (.int .i64 s)) (ks.map intA) i = some (findZ s ks i)
  | [], _ => rfl
  | a :: r, i => by
    show (match some (s == a) with | some true => some (some i) | some false => findK (eqK C kt (.int .i64) (.int .i64 s)) (r.map intA) (i + 1) | none => none) = _
    unfold findZ
    cases s == a with
    | true => rfl
    | false => exact findK_int s r (i + 1)
structure IntMap (C : Cx) (t : TypeId) (z : Value) : Prop where
  ex : ∃ ti kt et kti eti, C.ty t = some ti ∧ ti.desc = .map kt et ∧ C.ty kt = some kti ∧ kti.desc = .int .i64 ∧ C.ty et = some eti ∧ eti.zero = some z
theorem IntMap.key {C : Cx} {kt : TypeId} {kti : TI} (h3 : C.ty kt = some kti) (h4 : kti.desc = .int .i64) (ks : List Int) (b : Bool) (s : Int) : keyAt C kt (ks.map intA) b (.int .i64 s) = some (findZ s ks 0) := by
  unfold keyAt
  rw [h3]
  simp only [h4, keyKind, cond_true]
  exact findK_int s ks 0
theorem IntMap.look {C : Cx} {t : TypeId} {z : Value} (h : IntMap C t z) (H : Tr Ent) (ks : List Int) (vs : List AV) (s : Int) (ok : Bool) :
    alookup C H t (.rmp (ks.map intA) vs) (intA s) ok = match findZ s ks 0 with
      | some j => (vs[j]?).map fun v => bif ok then .tup [v, gB true] else v
      | none => some (bif ok then .tup [ofV z, gB false] else ofV z) := by
  obtain ⟨ti, kt, et, kti, eti, h1, h2, h3, h4, h5, h6⟩ := h.ex
  have hk := IntMap.key h3 h4 ks (ks.map intA).isEmpty s
  obtain ⟨d, _, _, _, _⟩ := ti
  obtain ⟨_, _, _, _, z'⟩ := eti
  simp only at h2 h6
  subst h2; subst h6
  unfold alookup
  rw [h1]
  show (match C.ty et, keyAt C kt (ks.map intA) (ks.map intA).isEmpty (.int .i64 s) with | some _, some (some j) => _ | some { zero := some z, .. }, some none => _ | _, _ => none) = _
  rw [h5, hk]
  cases findZ s ks 0 <;> rfl
theorem IntMap.add {C : Cx} {t : TypeId} {z : Value} (h : IntMap C t z) {ks : List Int} {vs : List AV} {s : Int} {v : AV} (hn : findZ s ks 0 = none) :
    mapUpd C t (ks.map intA) vs (intA s) v = some ((ks ++ [s]).map intA, vs ++ [v]) := by
  obtain ⟨ti, kt, et, kti, eti, h1, h2, h3, h4, h5, h6⟩ := h.ex
  have hk := IntMap.key h3 h4 ks false s
  obtain ⟨d, _, _, _, _⟩ := ti
  simp only at h2
  subst h2
  unfold mapUpd
  rw [h1]
  show (match keyAt C kt (ks.map intA) false (.int .i64 s) with | some (some j) => _ | some none => some (ks.map intA ++ [intA s], vs ++ [v]) | none => none) = _
  rw [hk, hn]
  simp
def intMapB (C : Cx) (t kt et : TypeId) (zb : Value → Bool) : Bool :=
  match C.ty t, C.ty kt, C.ty et with
  | some ti, some kti, some eti => (match ti.desc with | .map a b => Nat.beq a kt && Nat.beq b et | _ => false) && (match kti.desc with | .int .i64 => true | _ => false) && (match eti.zero with | some z => zb z | none => false)
  | _, _, _ => false
theorem intMap_of {C : Cx} {t kt et : TypeId} {zb : Value → Bool} {z : Value} (hz : ∀ v, zb v = true → v = z) (h : intMapB C t kt et zb = true) : IntMap C t z := by
  unfold intMapB at h
  split at h
  · rename_i ti kti eti h1 h2 h3
    simp only [Bool.and_eq_true] at h
    obtain ⟨⟨a, b⟩, c⟩ := h
    split at a
    · rename_i a' b' hd
      simp only [Bool.and_eq_true] at a
      obtain ⟨a1, a2⟩ := a
      have e1 := Nat.eq_of_beq_eq_true a1
      have e2 := Nat.eq_of_beq_eq_true a2
      subst e1; subst e2
      split at b
      · rename_i hk
        split at c
        · rename_i z' hz'
          exact ⟨ti, a', b', kti, eti, h1, hd, h2, hk, h3, by rw [hz', hz _ c]⟩
        · cases c
      · cases b
    · cases a
  · cases h
/-- Keys 1, 2, .., n. -/
def upto (n : Nat) : List Int := (List.range n).map fun (i : Nat) => Int.ofNat (i + 1)
theorem findZ_none {s : Int} : ∀ {ks : List Int} {i : Nat}, (∀ x ∈ ks, x ≠ s) → findZ s ks i = none
  | [], _, _ => rfl
  | a :: r, i, h => by
    unfold findZ
    rw [show (s == a) = false by have := h a (by simp); simp; exact fun e => this e.symm]
    exact findZ_none fun x hx => h x (by simp [hx])
theorem findZ_last {s : Int} : ∀ {ks : List Int} {i : Nat}, (∀ x ∈ ks, x ≠ s) → findZ s (ks ++ [s]) i = some (i + ks.length)
  | [], i, _ => by show findZ s [s] i = _; unfold findZ; rw [beq_self_eq_true]; rfl
  | a :: r, i, h => by
    show findZ s (a :: (r ++ [s])) i = _
    unfold findZ
    rw [show (s == a) = false by have := h a (by simp); simp; exact fun e => this e.symm, cond_false, findZ_last (fun x hx => h x (by simp [hx]))]
    simp; omega
theorem upto_ne {n : Nat} {x : Int} (h : x ∈ upto n) (m : Nat) (hm : m = 0 ∨ n < m) : x ≠ Int.ofNat m := by
  unfold upto at h
  rw [List.mem_map] at h
  obtain ⟨i, hi, rfl⟩ := h
  rw [List.mem_range] at hi
  simp only [Int.ofNat_eq_natCast, ne_eq]
  omega
theorem upto_succ (n : Nat) : upto (n + 1) = upto n ++ [Int.ofNat (n + 1)] := by unfold upto; rw [List.range_succ, List.map_append]; rfl
theorem upto_len (n : Nat) : (upto n).length = n := by unfold upto; simp
/-- A map of partial results: what it has at its last key, and how it grows. -/
theorem IntMap.last {C : Cx} {t : TypeId} {z : Value} (h : IntMap C t z) (H : Tr Ent) (n : Nat) (vs : List AV) (ok : Bool) {v : AV} (hv : vs[n]? = some v) :
    alookup C H t (.rmp ((upto (n + 1)).map intA) vs) (intA (Int.ofNat (n + 1))) ok = some (bif ok then .tup [v, gB true] else v) := by
  rw [h.look, upto_succ, findZ_last (fun x hx => upto_ne hx (n + 1) (.inr (by omega))), upto_len]
  simp only [Nat.zero_add, hv, Option.map_some]
theorem IntMap.none0 {C : Cx} {t : TypeId} {z : Value} (h : IntMap C t z) (H : Tr Ent) (n : Nat) (vs : List AV) (ok : Bool) :
    alookup C H t (.rmp ((upto n).map intA) vs) (intA (Int.ofNat 0)) ok = some (bif ok then .tup [ofV z, gB false] else ofV z) := by
  rw [h.look, findZ_none (fun x hx => upto_ne hx 0 (.inl rfl))]
theorem IntMap.grow {C : Cx} {t : TypeId} {z : Value} (h : IntMap C t z) (n : Nat) (vs : List AV) (v : AV) :
    mapUpd C t ((upto n).map intA) vs (intA (Int.ofNat (n + 1))) v = some ((upto (n + 1)).map intA, vs ++ [v]) := by
  rw [h.add (findZ_none (fun x hx => upto_ne hx (n + 1) (.inr (by omega)))), upto_succ]
end Go.Vm
