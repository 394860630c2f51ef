/- From arguments that read as data to abstract values, and from what the evaluator says to what a law's row asks. -/
import Derived.Test.YtliikgffjphhjaaGreatDoorVmKit
import Derived.Carry
import Derived.ChangeSame
import Derived.ChangeSlices
import Derived.OpenShut
import Derived.RowKit
namespace Go.Vm
open Go.RowKit Go.ChangeShapes Go.WideShapes

/-- Memory as a call finds it: all that is there is known to stay. -/
def memOf (w : World) : Mem := { mu := fun _ => none, imm := fun b => b < w.heap.size, w := w, cok := fun _ _ => True }

/-- What reads as a type's data stands as 'e v' for some v, of which Q holds. -/
def Reads {α : Type} (P : Program) (t : TypeId) (e : α → List AV) (Q : α → Prop) : Prop :=
  ∀ {H : Type} {enc : TypeId × Value → H} {w : World} {sp : Nat → Bool} {held : Bool} {fuel : Nat} {cs : List Value} {x : DataW H × List MemPlace}, (∀ b, sp b = true) →
    DataW.trod enc P w 0 sp held fuel t cs = some x → ∃ v, Q v ∧ RepL (memOf w) (e v) cs

def inI64 (n : Int) : Prop := -9223372036854775808 ≤ n ∧ n ≤ 9223372036854775807
def inU8 (n : Int) : Prop := 0 ≤ n ∧ n ≤ 255

section
variable {α β : Type} {P : Program} {t : TypeId}

theorem Reads.map {e : α → List AV} {e' : β → List AV} {Q : α → Prop} {Q' : β → Prop} (h : Reads P t e Q) (f : α → β) (he : ∀ v, e' (f v) = e v) (hQ : ∀ v, Q v → Q' (f v)) : Reads P t e' Q' := fun hsp hx => by
  obtain ⟨v, h1, h2⟩ := h hsp hx
  exact ⟨f v, hQ v h1, by rw [he]; exact h2⟩

theorem Reads.int (ht : P.underlying t = some (.int .i64)) : Reads P t (fun n : Int => [intA n]) inI64 := fun _ hx => by
  obtain ⟨n, rfl, _, hw⟩ := DataW.trod_int ht hx
  refine ⟨n, ?_, by simp only [RepL.cons_iff, RepL.nil_iff]; exact ⟨_, _, rfl, by unfold Rep; rfl, rfl⟩⟩
  simp only [Lit.wf, IntKind.min, IntKind.max, IntKind.signed, IntKind.bits, Bool.and_eq_true, decide_eq_true_eq] at hw
  unfold inI64
  constructor <;> simp at hw <;> omega
theorem Reads.u8 (ht : P.underlying t = some (.int .u8)) : Reads P t (fun n : Int => [u8A n]) inU8 := fun _ hx => by
  obtain ⟨n, rfl, _, hw⟩ := DataW.trod_int ht hx
  refine ⟨n, ?_, by simp only [RepL.cons_iff, RepL.nil_iff]; exact ⟨_, _, rfl, by unfold Rep; rfl, rfl⟩⟩
  simp only [Lit.wf, IntKind.min, IntKind.max, IntKind.signed, IntKind.bits, Bool.and_eq_true, decide_eq_true_eq] at hw
  unfold inU8
  constructor <;> simp at hw <;> omega
theorem Reads.bool (ht : P.underlying t = some .bool) : Reads P t (fun b : Bool => [boolA b]) (fun _ => True) := fun _ hx => by
  obtain ⟨b, rfl, _⟩ := DataW.trod_bool ht hx
  exact ⟨b, trivial, by simp only [RepL.cons_iff, RepL.nil_iff]; exact ⟨_, _, rfl, by unfold Rep; rfl, rfl⟩⟩
theorem Reads.str (ht : P.underlying t = some .string) : Reads P t (fun s : ByteArray => [strA s]) (fun s => s.size ≤ maxLen) := fun _ hx => by
  obtain ⟨s, rfl, _, hs⟩ := DataW.trod_string ht hx
  exact ⟨s, hs, by simp only [RepL.cons_iff, RepL.nil_iff]; exact ⟨_, _, rfl, by unfold Rep; rfl, rfl⟩⟩

/-! ### structs -/
/-- Fields that lie side by side. -/
def sideBy (P : Program) (off : Nat) : List Field → Bool
  | [] => true
  | f :: fs => Nat.beq f.offset off && sideBy P (off + P.cellsOf f.type) fs
def fieldsLen (P : Program) : List Field → Nat
  | [] => 0
  | f :: fs => P.cellsOf f.type + fieldsLen P fs

inductive ReadsF (P : Program) : List Field → (α : Type) → (α → List AV) → (α → Prop) → Prop
  | nil : ReadsF P [] Unit (fun _ => []) (fun _ => True)
  | cons {f : Field} {fs : List Field} {α β : Type} {e1 : α → List AV} {e2 : β → List AV} {Q1 : α → Prop} {Q2 : β → Prop} (h : Reads P f.type e1 Q1) (k : ReadsF P fs β e2 Q2) :
      ReadsF P (f :: fs) (α × β) (fun v => e1 v.1 ++ e2 v.2) (fun v => Q1 v.1 ∧ Q2 v.2)

theorem readsF {fs : List Field} {α : Type} {e : α → List AV} {Q : α → Prop} (h : ReadsF P fs α e Q) : ∀ {H : Type} {enc : TypeId × Value → H} {w : World} {sp : Nat → Bool} {held : Bool} {n off : Nat} {cs : List Value}, (∀ b, sp b = true) → sideBy P off fs = true →
    cs.length = off + fieldsLen P fs → (∀ f ∈ fs, ∃ x, DataW.trod enc P w 0 sp held n f.type ((cs.drop f.offset).take (P.cellsOf f.type)) = some x) → ∃ v, Q v ∧ RepL (memOf w) (e v) (cs.drop off) := by
  induction h with
  | nil =>
    intro H enc w sp held n off cs _ _ hl _
    refine ⟨(), trivial, ?_⟩
    simp only [fieldsLen, Nat.add_zero] at hl
    rw [RepL.nil_iff, List.drop_eq_nil_iff]; omega
  | @cons f fs α β e1 e2 Q1 Q2 h k ih =>
    intro H enc w sp held n off cs hsp hs hl hf
    simp only [sideBy, Bool.and_eq_true] at hs
    have ho := Nat.eq_of_beq_eq_true hs.1
    obtain ⟨x, hx⟩ := hf f (by simp)
    obtain ⟨v1, q1, r1⟩ := h hsp hx
    obtain ⟨v2, q2, r2⟩ := ih (cs := cs) hsp hs.2 (by simp only [fieldsLen] at hl; omega) (fun g hg => hf g (by simp [hg]))
    refine ⟨(v1, v2), ⟨q1, q2⟩, ?_⟩
    have : cs.drop off = (cs.drop off).take (P.cellsOf f.type) ++ cs.drop (off + P.cellsOf f.type) := by
      rw [← List.drop_drop, List.take_append_drop]
    rw [this]
    rw [ho] at r1
    exact r1.append r2

theorem Reads.struct {fs : Array Field} {e : α → List AV} {Q : α → Prop} (ht : P.underlying t = some (.struct fs)) (hs : sideBy P 0 fs.toList = true) (hc : P.cellsOf t = fieldsLen P fs.toList) (h : ReadsF P fs.toList α e Q) : Reads P t e Q := fun {H enc w sp held fuel cs x} hsp hx => by
  obtain ⟨xs, n, _, _, hl, hxl, hf⟩ := DataW.trod_struct ht hx
  obtain ⟨v, q, r⟩ := readsF h (enc := enc) (w := w) (sp := sp) (held := held) (n := n) (off := 0) (cs := cs) hsp hs (by rw [hl, hc]; omega) (fun f hfm => by
    obtain ⟨i, hi⟩ := List.getElem?_of_mem hfm
    have hi' : fs[i]? = some f := by simpa using hi
    have hlt : i < xs.length := by rw [hxl]; exact (Array.getElem?_eq_some_iff.1 hi').1
    exact ⟨xs[i], by rw [hf i f hi', List.getElem?_eq_getElem hlt]⟩)
  exact ⟨v, q, by simpa using r⟩

/-! ### slices -/
/-- One cell, or a struct's cells, as an element. -/
structure ElOk (e : α → List AV) (el : α → AV) (n : Nat) : Prop where
  val : ∀ (M : Mem) (v : α) (cs : List Value), RepL M (e v) cs → cs.length = n → ∃ y : Value, Rep M (el v) y ∧ y.cells.toList = cs
theorem ElOk.one {a : α → AV} (h : ∀ v, (a v).single = true) : ElOk (fun v => [a v]) a 1 := ⟨fun M v cs hr hl => by
  simp only [RepL.cons_iff, RepL.nil_iff] at hr
  obtain ⟨y, ys, rfl, hy, rfl⟩ := hr
  refine ⟨y, hy, ?_⟩
  have := single_rep (h v) hy
  cases y <;> first | rfl | simp [Value.oneCell'] at this⟩
theorem ElOk.agg {e : α → List AV} {n : Nat} : ElOk e (fun v => .agg (e v)) n := ⟨fun M v cs hr _ => ⟨.agg cs.toArray, by unfold Rep; exact ⟨cs, rfl, hr⟩, by simp [Value.cells]⟩⟩

theorem cells_len {e : TypeId} {w : World} {a : Addr} {cs : List Value} (h : w.cells? 0 a (P.cellsOf e) = some cs) : cs.length = P.cellsOf e := (World.cells?_some h).2.1

theorem build_row {M : Mem} {C : Nat} {el : α → AV} {Q : α → Prop} {cell : Nat → Option Value} : ∀ (n : Nat), (∀ i, i < n → ∃ (v : α) (y : Value), Q v ∧ Rep M (el v) y ∧ y.cells.size = C ∧ ∀ j, j < C → cell (i * C + j) = y.cells.toList[j]?) →
    ∃ (l : List α) (ys : List Value), l.length = n ∧ (∀ v ∈ l, Q v) ∧ RepL M (l.map el) ys ∧ Sized C ys ∧ ∀ i x, (flat ys)[i]? = some x → cell i = some x
  | 0, _ => ⟨[], [], rfl, by simp, by simp, by simp [Sized], by simp [flat]⟩
  | n + 1, h => by
    obtain ⟨l, ys, h1, h2, h3, h4, h5⟩ := build_row n (fun i hi => h i (by omega))
    obtain ⟨v, y, q, r, hs, hc⟩ := h n (by omega)
    have hyl : ys.length = n := by rw [h3.length]; simp [h1]
    have hfl : (flat ys).length = n * C := by rw [flat_length h4, hyl]
    refine ⟨l ++ [v], ys ++ [y], by simp [h1], fun u hu => ?_, ?_, ?_, fun i x hx => ?_⟩
    · rcases List.mem_append.1 hu with hu | hu
      · exact h2 u hu
      · rw [List.mem_singleton] at hu; subst hu; exact q
    · rw [List.map_append]; exact h3.append (by simp only [List.map_cons, List.map_nil, RepL.cons_iff, RepL.nil_iff]; exact ⟨_, _, rfl, r, rfl⟩)
    · intro z hz
      rcases List.mem_append.1 hz with hz | hz
      · exact h4 z hz
      · rw [List.mem_singleton] at hz; subst hz; exact hs
    · rw [flat_append] at hx
      have hone : flat [y] = y.cells.toList := by simp [flat]
      rw [hone] at hx
      by_cases hi : i < n * C
      · rw [List.getElem?_append_left (by omega)] at hx; exact h5 i x hx
      · rw [List.getElem?_append_right (by omega), hfl] at hx
        have hlt := (List.getElem?_eq_some_iff.1 hx).1
        rw [Array.length_toList, hs] at hlt
        have := hc (i - n * C) hlt
        rw [show n * C + (i - n * C) = i by omega] at this
        rw [this, hx]

theorem add_add' (a : Addr) (i j : Nat) : (a.add i).add j = a.add (i + j) := by
  unfold Addr.add
  by_cases hi : i = 0
  · subst hi; simp
  · by_cases hj : j = 0
    · subst hj; simp [hi]
    · have : i + j ≠ 0 := by omega
      simp [hi, hj, Nat.add_assoc]
theorem cell_add {w : World} {a : Addr} {i : Nat} {x : Value} (h : w.cell? (a.add i) = some x) : a.block < w.heap.size ∧ (i = 0 → a.spot = none) ∧ w.cell? ⟨a.block, a.off + i, none⟩ = some x := by
  have aux : ∀ (p : Addr) (x : Value), w.cell? p = some x → p.block < w.heap.size ∧ p.spot = none ∧ w.cell? ⟨p.block, p.off, none⟩ = some x := by
    intro p x h
    unfold World.cell? at h ⊢
    cases hh : w.heap[p.block]? with
    | none => rw [hh] at h; cases h
    | some o =>
      rw [hh] at h
      cases o <;> simp only at h <;> try (cases h; done)
      cases hsp : p.spot with
      | some q => rw [hsp] at h; simp at h
      | none =>
        rw [hsp] at h
        exact ⟨(Array.getElem?_eq_some_iff.1 hh).1, rfl, by simpa using h⟩
  obtain ⟨h1, h2, h3⟩ := aux _ _ h
  by_cases hi : i = 0
  · subst hi; exact ⟨h1, fun _ => h2, h3⟩
  · have e : a.add i = ⟨a.block, a.off + i, none⟩ := by unfold Addr.add; rw [if_neg hi]
    rw [e] at h1 h3
    exact ⟨h1, fun h => absurd h hi, h3⟩

theorem Reads.slice {el : α → AV} {e : α → List AV} {Q : α → Prop} {u : TypeId} {sz : Nat} (ht : P.underlying t = some (.slice u)) (hc : P.cellsOf u = sz) (h0 : 0 < sz) (h : Reads P u e Q) (hel : ElOk e el sz) :
    Reads P t (fun l : List α => [.rsl sz (l.map el) false]) (fun l => l.length ≤ maxLen ∧ ∀ v ∈ l, Q v) := fun {H enc w sp held fuel cs x} hsp hx => by
  rcases DataW.trod_slice ht hx with ⟨rfl, _⟩ | ⟨a, len, cap, elems, rest, n, _, rfl, _, hb, hl, hm, hlen, hel2, hsp2, _⟩
  · refine ⟨[], ⟨Nat.zero_le _, by simp⟩, ?_⟩
    simp only [RepL.cons_iff, RepL.nil_iff]
    exact ⟨_, _, rfl, by unfold Rep; exact ⟨none, 0, [], rfl, Nat.le_refl _, by simp, by simp [Sized], .inr rfl, fun q => by cases q⟩, rfl⟩
  · obtain ⟨hrl, hr⟩ := hsp2 (hsp _)
    have each : ∀ i, i < cap → ∃ (ci : List Value) (y : DataW H × List MemPlace), w.cells? 0 (a.add (i * sz)) sz = some ci ∧ DataW.trod enc P w 0 sp held n u ci = some y := by
      intro i hi
      have hb' : ∃ y, (w.cells? 0 (a.add (i * P.cellsOf u)) (P.cellsOf u)).bind (DataW.trod enc P w 0 sp held n u) = some y := by
        by_cases hil : i < len
        · exact ⟨elems[i]'(by omega), by rw [hel2 i hil, List.getElem?_eq_getElem (by omega)]⟩
        · have := hr (i - len) (by omega)
          rw [show len + (i - len) = i by omega] at this
          exact ⟨rest[i - len]'(by omega), by rw [this, List.getElem?_eq_getElem (by omega)]⟩
      obtain ⟨y, hy⟩ := hb'
      rw [hc, Option.bind_eq_some_iff] at hy
      obtain ⟨ci, h1, h2⟩ := hy
      exact ⟨ci, y, h1, h2⟩
    have row := build_row (M := memOf w) (C := sz) (el := el) (Q := Q) (cell := fun j => w.cell? (a.add j)) cap (fun i hi => by
      obtain ⟨ci, y, h1, h2⟩ := each i hi
      obtain ⟨v, q, r⟩ := h hsp h2
      obtain ⟨_, hcl, hat⟩ := World.cells?_some h1
      obtain ⟨z, hz, hzc⟩ := hel.val _ v ci r hcl
      refine ⟨v, z, q, hz, by rw [← Array.length_toList, hzc, hcl], fun j hj => ?_⟩
      have := hat j hj
      rw [add_add'] at this
      rw [hzc, ← this])
    obtain ⟨l, ys, l1, l2, l3, l4, l5⟩ := row
    refine ⟨l.take len, ⟨by simp only [List.length_take]; omega, fun v hv => l2 v (List.mem_of_mem_take hv)⟩, ?_⟩
    simp only [RepL.cons_iff, RepL.nil_iff]
    refine ⟨_, _, rfl, ?_, rfl⟩
    have hyl : ys.length = cap := by rw [l3.length]; simp [l1]
    have hll : ((l.take len).map el).length = len := by simp [l1]; omega
    unfold Rep
    refine ⟨some a, cap, ys.take len, by rw [hll], by rw [hll]; exact hl, ?_, l4.sub fun z hz => List.mem_of_mem_take hz, ?_, fun q => by cases q⟩
    · rw [List.map_take]; exact l3.take len
    · by_cases hcap : cap = 0
      · exact .inr hcap
      have hfl : (flat ys).length = cap * sz := by rw [flat_length l4, hyl]
      have hpos : 0 < (flat ys).length := by rw [hfl]; exact Nat.mul_pos (by omega) h0
      have hspot := (cell_add (l5 0 _ (List.getElem?_eq_getElem hpos))).2.1 rfl
      refine .inl ⟨a.block, a.off, ?_, fun i x hx => ?_⟩
      · cases a; simp only at hspot; subst hspot; rfl
      · have hx' : (flat ys)[i]? = some x := by
          rw [← flat_take l4, List.getElem?_take] at hx
          split at hx
          · exact hx
          · cases hx
        obtain ⟨q1, _, q3⟩ := cell_add (l5 i x hx')
        exact ⟨q1, q3⟩

/-! ### arguments -/
def ArgOk (P : Program) (t : TypeId) (e : α → List AV) (a : α → AV) : Prop := ∀ (w W : World) (base : Nat) (v : Value) (x : α), Value.okWide P W .any base t v → RepL (memOf w) (e x) v.cells.toList → Rep (memOf w) (a x) v

theorem ArgOk.one {a : α → AV} (h : ∀ (W : World) (base : Nat) (v : Value), Value.okWide P W .any base t v → v.cells = #[v]) : ArgOk P t (fun x => [a x]) a := fun w W base v x hv hr => by
  rw [h W base v hv] at hr
  simp only [RepL.cons_iff, RepL.nil_iff] at hr
  obtain ⟨y, ys, e, hy, rfl⟩ := hr
  simp only [List.cons.injEq, and_true] at e
  subst e; exact hy
theorem one_cell (h : match P.underlying t with | some .bool | some (.int _) | some .string | some (.slice _) => True | _ => False) (W : World) (base : Nat) (v : Value) (hv : Value.okWide P W .any base t v) : v.cells = #[v] := by
  unfold Value.okWide at hv
  cases ht : P.underlying t with
  | none => rw [ht] at h; exact h.elim
  | some d =>
    rw [ht] at h hv
    cases d <;> simp only at h <;> simp only [Cell.okWide, Cell.ok, ht] at hv <;> cases v <;> first | rfl | (simp at hv)
theorem ArgOk.agg {e : α → List AV} {fs : Array Field} (ht : P.underlying t = some (.struct fs)) : ArgOk P t e (fun x => .agg (e x)) := fun w W base v x hv hr => by
  obtain ⟨cs, rfl, _⟩ := okWide_struct ht hv
  unfold Rep
  exact ⟨cs.toList, by simp, hr⟩

inductive ReadsA (P : Program) : List TypeId → (α : Type) → (α → List AV) → (α → Prop) → Prop
  | nil : ReadsA P [] Unit (fun _ => []) (fun _ => True)
  | cons {t : TypeId} {ts : List TypeId} {α β : Type} {e : α → List AV} {a : α → AV} {as : β → List AV} {Q1 : α → Prop} {Q2 : β → Prop} (h : Reads P t e Q1) (ha : ArgOk P t e a) (k : ReadsA P ts β as Q2) :
      ReadsA P (t :: ts) (α × β) (fun v => a v.1 :: as v.2) (fun v => Q1 v.1 ∧ Q2 v.2)

theorem readsA {ts : List TypeId} {α : Type} {as : α → List AV} {Q : α → Prop} (h : ReadsA P ts α as Q) : ∀ {H : Type} {enc : TypeId × Value → H} {w : World} {base : Nat} {vs : List Value} {ds : List (DataW H)} {ps : List MemPlace},
    (∀ (j : Nat) t v, ts[j]? = some t → vs[j]? = some v → Value.okWide P w .any base t v) → DataW.TrodAll enc P w 0 (fun _ => true) true ts vs ds ps → ∃ x, Q x ∧ RepL (memOf w) (as x) vs := by
  induction h with
  | nil =>
    intro H enc w base vs ds ps _ hd
    cases vs with
    | nil => exact ⟨(), trivial, by simp⟩
    | cons v vs => cases ds <;> simp [DataW.TrodAll] at hd
  | cons h ha k ih =>
    intro H enc w base vs ds ps hv hd
    cases vs with
    | nil => cases ds <;> simp [DataW.TrodAll] at hd
    | cons v vs =>
      cases ds with
      | nil => simp [DataW.TrodAll] at hd
      | cons d ds =>
        obtain ⟨p, q, ⟨fuel, h1⟩, h2, _⟩ := hd
        obtain ⟨x1, q1, r1⟩ := h (fun _ => rfl) h1
        obtain ⟨x2, q2, r2⟩ := ih (base := base) (fun j t v ht hv' => hv (j + 1) t v (by simpa using ht) (by simpa using hv')) h2
        refine ⟨(x1, x2), ⟨q1, q2⟩, ?_⟩
        rw [RepL.cons_iff]
        exact ⟨v, vs, rfl, ha w w base v x1 (hv 0 _ v rfl rfl) r1, r2⟩

theorem trodAll_len {H : Type} {enc : TypeId × Value → H} {w : World} {base : Nat} {sp : Nat → Bool} {held : Bool} : ∀ {ts : List TypeId} {vs : List Value} {ds : List (DataW H)} {ps : List MemPlace}, DataW.TrodAll enc P w base sp held ts vs ds ps → ds.length = ts.length
  | [], [], [], _, _ => rfl
  | t :: ts, v :: vs, d :: ds, _, h => by obtain ⟨p, q, _, h2, _⟩ := h; simp [trodAll_len h2]
  | [], [], _ :: _, _, h => h.elim
  | [], _ :: _, _, _, h => h.elim
  | _ :: _, [], _, _, h => h.elim
  | _ :: _, _ :: _, [], _, h => h.elim
theorem trodAll_stays {H : Type} {enc : TypeId × Value → H} (hl : laidOutB P = true) {W W' : World} {sp : Nat → Bool} (hb : Below W.heap.size W W') : ∀ {ts : List TypeId} {vs : List Value} {ds : List (DataW H)} {ps : List MemPlace},
    (∀ t ∈ ts, P.readableRec t = true ∧ t < P.types.size) → DataW.TrodAll enc P W 0 (fun _ => true) true ts vs ds ps → (∀ p ∈ ps, p.block < W.heap.size) → (∀ p ∈ ps, sp p.block = true) → DataW.TrodAll enc P W' 0 sp true ts vs ds ps
  | [], [], [], _, _, h, _, _ => h
  | t :: ts, v :: vs, d :: ds, _, hr, h, hlt, hsp => by
    obtain ⟨p, q, h1, h2, rfl⟩ := h
    obtain ⟨r1, r2⟩ := hr t (by simp)
    exact ⟨p, q, WideElems.Trod_stays hl r1 r2 h1 (fun x hx => hb.same (hlt x (by simp [hx]))) (fun x hx => hsp x (by simp [hx])),
      trodAll_stays hl hb (fun u hu => hr u (by simp [hu])) h2 (fun x hx => hlt x (by simp [hx])) (fun x hx => hsp x (by simp [hx])), rfl⟩
  | [], [], _ :: _, _, _, h, _, _ => h.elim
  | [], _ :: _, _, _, _, h, _, _ => h.elim
  | _ :: _, [], _, _, _, h, _, _ => h.elim
  | _ :: _, _ :: _, [], _, _, h, _, _ => h.elim

theorem post_of_old {H : Type} {enc : TypeId × Value → H} {f : Func} {s : ChangeSpec} {apart fresh handsOn again : Bool} {W W' : World} {args : Array Value} {v : Value} {ds gs : List (DataW H)} {before pa pv : List MemPlace}
    (hW : DataW.Whole enc P f.params.toList s.vars apart W args.toList ds gs before)
    (hres : ∀ (b : Nat) (sp : Nat → Bool) (hd : Bool), DataW.TrodAll enc P W' b sp hd f.resultTypes.toList (v.resultList f.resultTypes.size) (s.fn H (ds ++ gs)).results [])
    (hargs : ∀ sp : Nat → Bool, (∀ p ∈ before, sp p.block = true) → DataW.TrodAll enc P W' 0 sp true f.params.toList args.toList (s.fn H (ds ++ gs)).args pa)
    (hvars : ∀ sp : Nat → Bool, (∀ p ∈ before, sp p.block = true) → DataW.TrodVars enc P W' sp s.vars (s.fn H (ds ++ gs)).vars pv)
    (hps : before = pa ++ pv) (hk : W.keptBut W' (· ∈ before)) (hfz : ∀ a : Addr, a.block < W.heap.size → W'.frozen? a = W.frozen? a)
    (hok : ∀ (j : Nat) (t : TypeId) (r : Value), f.resultTypes[j]? = some t → (v.resultList f.resultTypes.size)[j]? = some r → Value.okWide P W' .any 0 t r) :
    s.post enc P f apart fresh handsOn again W args v W' := by
  have hold : ∀ p ∈ before, (fun b => decide (b < W.heap.size)) p.block = true := fun p hp => by simpa using hW.lt p hp
  refine ⟨ds, gs, before, [], pa, pv, hW, hres _ _ _, hargs _ hold, hvars _ hold, World.keptBut_mono (fun p hp => ⟨hp, ?_⟩) hk, fun _ => ?_⟩
  · rw [hps, List.mem_append] at hp
    exact Or.inr hp
  · have hlt := hW.lt
    obtain ⟨_, _, _, _, _, hz, hn⟩ := hW
    refine ⟨hok, _, _, ([] ++ pa) ++ pv, ⟨[] ++ pa, pv, trodAll_append (hargs _ (fun _ _ => rfl)) (hres _ _ _), hvars _ (fun _ _ => rfl), rfl, ?_, ?_⟩, ?_⟩
    · intro b off hp
      have hp' : MemPlace.cell b off ∈ before := by rw [hps]; simpa using hp
      rw [hfz _ (hlt _ hp')]
      exact hz b off hp'
    · intro ha
      have := hn ha
      rw [hps] at this
      simpa using this
    · intro p hp _
      rw [hps]
      simpa using hp

/-- A LAW's CALL: it returns true and leaves all that was there as it was. -/
theorem law_contract {H : Type} {enc : TypeId × Value → H} {glob : Nat → Option (List AV)} {f : FuncId} {fn : Func} {s : ChangeSpec} {t4 : TypeId} {apart fresh handsOn again : Bool} {av : α → List AV} {Q : α → Prop}
    (hl : laidOutB P = true) (hvars : s.vars = []) (hs : ∀ ds : List (DataW H), ds.length = fn.params.size → s.fn H ds = { results := [.lit (.bool true)], args := ds }) (hrt : fn.resultTypes = #[t4]) (ht4 : P.underlying t4 = some .bool)
    (hread : ∀ t ∈ fn.params.toList, P.readableRec t = true ∧ t < P.types.size) (hA : ReadsA P fn.params.toList α av Q) (hcomp : ∀ x, Q x → Comp P glob f (av x) (gB true))
    {W : World} {base : Nat} {args : Array Value} {ds gs : List (DataW H)} {before : List MemPlace} (hval : ∀ (j : Nat) t v, fn.params[j]? = some t → args[j]? = some v → Value.okWide P W .any base t v)
    (hW : DataW.Whole enc P fn.params.toList s.vars apart W args.toList ds gs before) (hg : GlobOk (mkCx P (Tabs.bare glob) 0 (fun _ => .tree) (fun _ _ => none)) (memOf W)) :
    Calls P f args W fun e W' => ∃ v, e = .returned v ∧ s.post enc P fn apart fresh handsOn again W args v W' := by
  have hW' := hW
  obtain ⟨p, q, hA0, hV, rfl, hfz, hnd⟩ := hW
  rw [hvars] at hV
  obtain ⟨rfl, rfl⟩ := trodVars_none hV
  obtain ⟨x, hq, hr⟩ := readsA hA (base := base) (fun j t v h1 h2 => hval j t v (by simpa using h1) (by simpa using h2)) hA0
  have hc := (hcomp x hq).2 (memOf W) args.toList (fun b h => h) hr hg
  rw [callsIn_one] at hc
  refine hc.mono fun e W' ⟨v, he, M', hw, hle, _, _, _, hrv, hbl⟩ => ?_
  have hv : v = .bool true := by unfold gB Rep at hrv; exact hrv
  subst hv; subst he
  have hbl : Below W.heap.size W W' := hbl
  have hlt : ∀ y ∈ p, y.block < W.heap.size := fun y hy => by simpa using hW'.lt y (by simpa using hy)
  have hfn := hs ds (by have := trodAll_len hA0; simpa using this)
  refine ⟨_, rfl, post_of_old (pa := p) (pv := []) hW' (fun b sp hd => ?_) (fun sp hsp => ?_) (fun sp _ => ?_) rfl (hbl.frame _) (fun a ha => hbl.frozen ha) (ok_one hrt rfl (okWide_bool_mk ht4 true))⟩
  · rw [List.append_nil, hfn, hrt]
    exact trodAll_mk1 (shut_bool ht4 true)
  · rw [List.append_nil, hfn]
    exact trodAll_stays hl hbl hread hA0 hlt (fun y hy => hsp y (by simpa using hy))
  · rw [hvars]
    show DataW.TrodVars enc P W' sp [] ((s.fn H (ds ++ [])).vars) []
    rw [List.append_nil, hfn]; rfl
end
end Go.Vm
