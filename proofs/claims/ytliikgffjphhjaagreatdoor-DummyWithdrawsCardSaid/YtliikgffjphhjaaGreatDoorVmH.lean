/- From arguments that read as data to abstract values, and from what the evaluator says to what a law's row asks. -/
import Derived.Test.YtliikgffjphhjaaGreatDoorVmG
import Derived.Carry
import Derived.ChangeSame
import Derived.ChangeSlices
import Derived.OpenShut
import Derived.RowKit
namespace Go.Vm
open Go.RowKit Go.ChangeShapes Go.WideShapes
def memOf (w : World) : Mem := { mu := fun _ => none, imm := fun b => b < w.heap.size, w := w, cok := fun _ _ => True }
def Reads {α : Type} (P : Program) (t : TypeId) (e : α → List AV) (Q : α → Prop) : Prop :=
 ∀ {H : Type} {enc : TypeId × Value → H} {w : World} {sp : Nat → Bool} {held : Bool} {fuel : Nat} {cs : List Value} {x : DataW H × List MemPlace}, (∀ b, sp b = true) →
  DataW.trod enc P w 0 sp held fuel t cs = some x → ∃ v, Q v ∧ RepL (memOf w) (e v) cs
def inI64 (n : Int) : Prop := -9223372036854775808 ≤ n ∧ n ≤ 9223372036854775807
def inU8 (n : Int) : Prop := 0 ≤ n ∧ n ≤ 255
section
variable {α β : Type} {P : Program} {t : TypeId}
theorem Reads.map {e : α → List AV} {e' : β → List AV} {Q : α → Prop} {Q' : β → Prop} (h : Reads P t e Q) (f : α → β) (he : ∀ v, e' (f v) = e v) (hQ : ∀ v, Q v → Q' (f v)) : Reads P t e' Q' := fun hsp hx => by
 obtain ⟨v, h1, h2⟩ := h hsp hx
 exact ⟨f v, hQ v h1, by rw [he]; exact h2⟩
theorem Reads.int (ht : P.underlying t = some (.int .i64)) : Reads P t (fun n : Int => [iA n]) inI64 := fun _ hx => by
 obtain ⟨n, rfl, _, hw⟩ := DataW.trod_int ht hx
 refine ⟨n, ?_, by simp only [RepL.cons_iff, RepL.nil_iff]; exact ⟨_, _, rfl, by unfold Rep; rfl, rfl⟩⟩
 simp only [Lit.wf, IntKind.min, IntKind.max, IntKind.signed, IntKind.bits, Bool.and_eq_true, decide_eq_true_eq] at hw
 unfold inI64
 constructor <;> simp at hw <;> omega
theorem Reads.u8 (ht : P.underlying t = some (.int .u8)) : Reads P t (fun n : Int => [u8A n]) inU8 := fun _ hx => by
 obtain ⟨n, rfl, _, hw⟩ := DataW.trod_int ht hx
 refine ⟨n, ?_, by simp only [RepL.cons_iff, RepL.nil_iff]; exact ⟨_, _, rfl, by unfold Rep; rfl, rfl⟩⟩
 simp only [Lit.wf, IntKind.min, IntKind.max, IntKind.signed, IntKind.bits, Bool.and_eq_true] at hw
 unfold inU8
 constructor <;> simp at hw <;> omega
theorem Reads.bool (ht : P.underlying t = some .bool) : Reads P t (fun b : Bool => [bA b]) (fun _ => True) := fun _ hx => by
 obtain ⟨b, rfl, _⟩ := DataW.trod_bool ht hx
 exact ⟨b, trivial, by simp only [RepL.cons_iff, RepL.nil_iff]; exact ⟨_, _, rfl, by unfold Rep; rfl, rfl⟩⟩
theorem Reads.str (ht : P.underlying t = some .string) : Reads P t (fun s : ByteArray => [sA s]) (fun s => s.size ≤ maxLen) := fun _ hx => by
 obtain ⟨s, rfl, _, hs⟩ := DataW.trod_string ht hx
 exact ⟨s, hs, by simp only [RepL.cons_iff, RepL.nil_iff]; exact ⟨_, _, rfl, by unfold Rep; rfl, rfl⟩⟩
def sideBy (P : Program) (off : Nat) : List Field → Bool
 | [] => true
 | f :: fs => Nat.beq f.offset off && sideBy P (off + P.cellsOf f.type) fs
def fieldsLen (P : Program) : List Field → Nat
 | [] => 0
 | f :: fs => P.cellsOf f.type + fieldsLen P fs
inductive ReadsF (P : Program) : List Field → (α : Type) → (α → List AV) → (α → Prop) → Prop
 | nil : ReadsF P [] Unit (fun _ => []) (fun _ => True)
 | cons {f : Field} {fs : List Field} {α β : Type} {e1 : α → List AV} {e2 : β → List AV} {Q1 : α → Prop} {Q2 : β → Prop} (h : Reads P f.type e1 Q1) (k : ReadsF P fs β e2 Q2) :
   ReadsF P (f :: fs) (α × β) (fun v => e1 v.1 ++ e2 v.2) (fun v => Q1 v.1 ∧ Q2 v.2)
theorem readsF {fs : List Field} {α : Type} {e : α → List AV} {Q : α → Prop} (h : ReadsF P fs α e Q) : ∀ {H : Type} {enc : TypeId × Value → H} {w : World} {sp : Nat → Bool} {held : Bool} {n off : Nat} {cs : List Value}, (∀ b, sp b = true) → sideBy P off fs = true →
  cs.length = off + fieldsLen P fs → (∀ f ∈ fs, ∃ x, DataW.trod enc P w 0 sp held n f.type ((cs.drop f.offset).take (P.cellsOf f.type)) = some x) → ∃ v, Q v ∧ RepL (memOf w) (e v) (cs.drop off) := by
 induction h with
 | nil =>
  intro H enc w sp held n off cs _ _ hl _
  refine ⟨(), trivial, ?_⟩
  simp only [fieldsLen, Nat.add_zero] at hl
  rw [RepL.nil_iff, List.drop_eq_nil_iff]; omega
 | @cons f fs α β e1 e2 Q1 Q2 h k ih =>
  intro H enc w sp held n off cs hsp hs hl hf
  simp only [sideBy, Bool.and_eq_true] at hs
  have ho := Nat.eq_of_beq_eq_true hs.1
  obtain ⟨x, hx⟩ := hf f (by simp)
  obtain ⟨v1, q1, r1⟩ := h hsp hx
  obtain ⟨v2, q2, r2⟩ := ih (cs := cs) hsp hs.2 (by simp only [fieldsLen] at hl; omega) (fun g hg => hf g (by simp [hg]))
  refine ⟨(v1, v2), ⟨q1, q2⟩, ?_⟩
  have : cs.drop off = (cs.drop off).take (P.cellsOf f.type) ++ cs.drop (off + P.cellsOf f.type) := by
   rw [← List.drop_drop, List.take_append_drop]
  rw [this]
  rw [ho] at r1
  exact r1.append r2
theorem Reads.struct {fs : Array Field} {e : α → List AV} {Q : α → Prop} (ht : P.underlying t = some (.struct fs)) (hs : sideBy P 0 fs.toList = true) (hc : P.cellsOf t = fieldsLen P fs.toList) (h : ReadsF P fs.toList α e Q) : Reads P t e Q := fun {H enc w sp held fuel cs x} hsp hx => by
 obtain ⟨xs, n, _, _, hl, hxl, hf⟩ := DataW.trod_struct ht hx
 obtain ⟨v, q, r⟩ := readsF h (enc := enc) (w := w) (sp := sp) (held := held) (n := n) (off := 0) (cs := cs) hsp hs (by rw [hl, hc]; omega) (fun f hfm => by
  obtain ⟨i, hi⟩ := List.getElem?_of_mem hfm
  have hi' : fs[i]? = some f := by simpa using hi
  have hlt : i < xs.length := by rw [hxl]; exact (Array.getElem?_eq_some_iff.1 hi').1
  exact ⟨xs[i], by rw [hf i f hi', List.getElem?_eq_getElem hlt]⟩)
 exact ⟨v, q, by simpa using r⟩
structure ElOk (e : α → List AV) (el : α → AV) (n : Nat) : Prop where
 val : ∀ (M : Mem) (v : α) (cs : List Value), RepL M (e v) cs → cs.length = n → ∃ y : Value, Rep M (el v) y ∧ y.cells.toList = cs
theorem ElOk.one {a : α → AV} (h : ∀ v, (a v).single = true) : ElOk (fun v => [a v]) a 1 := ⟨fun M v cs hr hl => by
 simp only [RepL.cons_iff, RepL.nil_iff] at hr
 obtain ⟨y, ys, rfl, hy, rfl⟩ := hr
 refine ⟨y, hy, ?_⟩
 have := single_rep (h v) hy
 cases y <;> first | rfl | simp [Value.oneCell'] at this⟩
theorem ElOk.agg {e : α → List AV} {n : Nat} : ElOk e (fun v => .agg (e v)) n := ⟨fun M v cs hr _ => ⟨.agg cs.toArray, by unfold Rep; exact ⟨cs, rfl, hr⟩, by simp [Value.cells]⟩⟩
theorem build_row {M : Mem} {C : Nat} {el : α → AV} {Q : α → Prop} {cell : Nat → Option Value} : ∀ (n : Nat), (∀ i, i < n → ∃ (v : α) (y : Value), Q v ∧ Rep M (el v) y ∧ y.cells.size = C ∧ ∀ j, j < C → cell (i * C + j) = y.cells.toList[j]?) →
  ∃ (l : List α) (ys : List Value), l.length = n ∧ (∀ v ∈ l, Q v) ∧ RepL M (l.map el) ys ∧ Sized C ys ∧ ∀ i x, (flat ys)[i]? = some x → cell i = some x
 | 0, _ => ⟨[], [], rfl, by simp, by simp, by simp [Sized], by simp [flat]⟩
 | n + 1, h => by
  obtain ⟨l, ys, h1, h2, h3, h4, h5⟩ := build_row n (fun i hi => h i (by omega))
  obtain ⟨v, y, q, r, hs, hc⟩ := h n (by omega)
  have hyl : ys.length = n := by rw [h3.length]; simp [h1]
  have hfl : (flat ys).length = n * C := by rw [flat_length h4, hyl]
  refine ⟨l ++ [v], ys ++ [y], by simp [h1], fun u hu => ?_, ?_, ?_, fun i x hx => ?_⟩
  ·rcases List.mem_append.1 hu with hu | hu
   ·exact h2 u hu
   ·rw [List.mem_singleton] at hu; subst hu; exact q
  ·rw [List.map_append]; exact h3.append (by simp only [List.map_cons, List.map_nil, RepL.cons_iff, RepL.nil_iff]; exact ⟨_, _, rfl, r, rfl⟩)
  ·intro z hz
   rcases List.mem_append.1 hz with hz | hz
   ·exact h4 z hz
   ·rw [List.mem_singleton] at hz; subst hz; exact hs
  ·rw [flat_append] at hx
   have hone : flat [y] = y.cells.toList := by simp [flat]
   rw [hone] at hx
   by_cases hi : i < n * C
   ·rw [List.getElem?_append_left (by omega)] at hx; exact h5 i x hx
   ·rw [List.getElem?_append_right (by omega), hfl] at hx
    have hlt := (List.getElem?_eq_some_iff.1 hx).1
    rw [Array.length_toList, hs] at hlt
    have := hc (i - n * C) hlt
    rw [show n * C + (i - n * C) = i by omega] at this
    rw [this, hx]
theorem add_add' (a : Addr) (i j : Nat) : (a.add i).add j = a.add (i + j) := by
 unfold Addr.add
 by_cases hi : i = 0
 ·subst hi; simp
 ·by_cases hj : j = 0
  ·subst hj; simp [hi]
  ·have : i + j ≠ 0 := by omega
   simp [hi, hj, Nat.add_assoc]
theorem cell_add {w : World} {a : Addr} {i : Nat} {x : Value} (h : w.cell? (a.add i) = some x) : a.block < w.heap.size ∧ (i = 0 → a.spot = none) ∧ w.cell? ⟨a.block, a.off + i, none⟩ = some x := by
 have aux : ∀ (p : Addr) (x : Value), w.cell? p = some x → p.block < w.heap.size ∧ p.spot = none ∧ w.cell? ⟨p.block, p.off, none⟩ = some x := by
  intro p x h
  unfold World.cell? at h ⊢
  cases hh : w.heap[p.block]? with
  | none => rw [hh] at h; cases h
  | some o =>
   rw [hh] at h
   cases o <;> simp only at h <;> try (cases h; done)
   cases hsp : p.spot with
   | some q => rw [hsp] at h; simp at h
   | none =>
    rw [hsp] at h
    exact ⟨(Array.getElem?_eq_some_iff.1 hh).1, rfl, by simpa using h⟩
 obtain ⟨h1, h2, h3⟩ := aux _ _ h
 by_cases hi : i = 0
 ·subst hi; exact ⟨h1, fun _ => h2, h3⟩
 ·have e : a.add i = ⟨a.block, a.off + i, none⟩ := by unfold Addr.add; rw [if_neg hi]
  rw [e] at h1 h3
  exact ⟨h1, fun h => absurd h hi, h3⟩
theorem Reads.slice {el : α → AV} {e : α → List AV} {Q : α → Prop} {u : TypeId} {sz : Nat} (ht : P.underlying t = some (.slice u)) (hc : P.cellsOf u = sz) (h0 : 0 < sz) (h : Reads P u e Q) (hel : ElOk e el sz) :
  Reads P t (fun l : List α => [.rsl sz (l.map el) false]) (fun l => l.length ≤ maxLen ∧ ∀ v ∈ l, Q v) := fun {H enc w sp held fuel cs x} hsp hx => by
 rcases DataW.trod_slice ht hx with ⟨rfl, _⟩ | ⟨a, len, cap, elems, rest, n, _, rfl, _, hb, hl, hm, hlen, hel2, hsp2, _⟩
 ·refine ⟨[], ⟨Nat.zero_le _, by simp⟩, ?_⟩
  simp only [RepL.cons_iff, RepL.nil_iff]
  exact ⟨_, _, rfl, by unfold Rep; exact ⟨none, 0, [], rfl, Nat.le_refl _, by simp, by simp [Sized], .inr rfl, fun q => by cases q⟩, rfl⟩
 ·obtain ⟨hrl, hr⟩ := hsp2 (hsp _)
  have each : ∀ i, i < cap → ∃ (ci : List Value) (y : DataW H × List MemPlace), w.cells? 0 (a.add (i * sz)) sz = some ci ∧ DataW.trod enc P w 0 sp held n u ci = some y := by
   intro i hi
   have hb' : ∃ y, (w.cells? 0 (a.add (i * P.cellsOf u)) (P.cellsOf u)).bind (DataW.trod enc P w 0 sp held n u) = some y := by
    by_cases hil : i < len
    ·exact ⟨elems[i]'(by omega), by rw [hel2 i hil, List.getElem?_eq_getElem (by omega)]⟩
    ·have := hr (i - len) (by omega)
     rw [show len + (i - len) = i by omega] at this
     exact ⟨rest[i - len]'(by omega), by rw [this, List.getElem?_eq_getElem (by omega)]⟩
   obtain ⟨y, hy⟩ := hb'
   rw [hc, Option.bind_eq_some_iff] at hy
   obtain ⟨ci, h1, h2⟩ := hy
   exact ⟨ci, y, h1, h2⟩
  have row := build_row (M := memOf w) (C := sz) (el := el) (Q := Q) (cell := fun j => w.cell? (a.add j)) cap (fun i hi => by
   obtain ⟨ci, y, h1, h2⟩ := each i hi
   obtain ⟨v, q, r⟩ := h hsp h2
   obtain ⟨_, hcl, hat⟩ := World.cells?_some h1
   obtain ⟨z, hz, hzc⟩ := hel.val _ v ci r hcl
   refine ⟨v, z, q, hz, by rw [← Array.length_toList, hzc, hcl], fun j hj => ?_⟩
   have := hat j hj
   rw [add_add'] at this
   rw [hzc, ← this])
  obtain ⟨l, ys, l1, l2, l3, l4, l5⟩ := row
  refine ⟨l.take len, ⟨by simp only [List.length_take]; omega, fun v hv => l2 v (List.mem_of_mem_take hv)⟩, ?_⟩
  simp only [RepL.cons_iff, RepL.nil_iff]
  refine ⟨_, _, rfl, ?_, rfl⟩
  have hyl : ys.length = cap := by rw [l3.length]; simp [l1]
  have hll : ((l.take len).map el).length = len := by simp [l1]; omega
  unfold Rep
  refine ⟨some a, cap, ys.take len, by rw [hll], by rw [hll]; exact hl, ?_, l4.sub fun z hz => List.mem_of_mem_take hz, ?_, fun q => by cases q⟩
  ·rw [List.map_take]; exact l3.take len
  ·by_cases hcap : cap = 0
   ·exact .inr hcap
   have hfl : (flat ys).length = cap * sz := by rw [flat_length l4, hyl]
   have hpos : 0 < (flat ys).length := by rw [hfl]; exact Nat.mul_pos (by omega) h0
   have hspot := (cell_add (l5 0 _ (List.getElem?_eq_getElem hpos))).2.1 rfl
   refine .inl ⟨a.block, a.off, ?_, fun i x hx => ?_⟩
   ·cases a; simp only at hspot; subst hspot; rfl
   ·have hx' : (flat ys)[i]? = some x := by
     rw [← flat_take l4, List.getElem?_take] at hx
     split at hx
     ·exact hx
     ·cases hx
    obtain ⟨q1, _, q3⟩ := cell_add (l5 i x hx')
    exact ⟨q1, q3⟩
def ArgOk (P : Program) (t : TypeId) (e : α → List AV) (a : α → AV) : Prop := ∀ (w W : World) (base : Nat) (v : Value) (x : α), Value.okWide P W .any base t v → RepL (memOf w) (e x) v.cells.toList → Rep (memOf w) (a x) v
theorem ArgOk.one {a : α → AV} (h : ∀ (W : World) (base : Nat) (v : Value), Value.okWide P W .any base t v → v.cells = #[v]) : ArgOk P t (fun x => [a x]) a := fun w W base v x hv hr => by
 rw [h W base v hv] at hr
 simp only [RepL.cons_iff, RepL.nil_iff] at hr
 obtain ⟨y, ys, e, hy, rfl⟩ := hr
 simp only [List.cons.injEq, and_true] at e
 subst e; exact hy
theorem one_cell (h : match P.underlying t with | some .bool | some (.int _) | some .string | some (.slice _) => True | _ => False) (W : World) (base : Nat) (v : Value) (hv : Value.okWide P W .any base t v) : v.cells = #[v] := by
 unfold Value.okWide at hv
 cases ht : P.underlying t with
 | none => rw [ht] at h; exact h.elim
 | some d =>
  rw [ht] at h hv
  cases d <;> simp only at h <;> simp only [Cell.okWide, Cell.ok, ht] at hv <;> cases v <;> first | rfl | (simp at hv)
theorem ArgOk.agg {e : α → List AV} {fs : Array Field} (ht : P.underlying t = some (.struct fs)) : ArgOk P t e (fun x => .agg (e x)) := fun w W base v x hv hr => by
 obtain ⟨cs, rfl, _⟩ := okWide_struct ht hv
 unfold Rep
 exact ⟨cs.toList, by simp, hr⟩
inductive ReadsA (P : Program) : List TypeId → (α : Type) → (α → List AV) → (α → Prop) → Prop
 | nil : ReadsA P [] Unit (fun _ => []) (fun _ => True)
 | cons {t : TypeId} {ts : List TypeId} {α β : Type} {e : α → List AV} {a : α → AV} {as : β → List AV} {Q1 : α → Prop} {Q2 : β → Prop} (h : Reads P t e Q1) (ha : ArgOk P t e a) (k : ReadsA P ts β as Q2) :
   ReadsA P (t :: ts) (α × β) (fun v => a v.1 :: as v.2) (fun v => Q1 v.1 ∧ Q2 v.2)
theorem readsA {ts : List TypeId} {α : Type} {as : α → List AV} {Q : α → Prop} (h : ReadsA P ts α as Q) : ∀ {H : Type} {enc : TypeId × Value → H} {w : World} {base : Nat} {vs : List Value} {ds : List (DataW H)} {ps : List MemPlace},
  (∀ (j : Nat) t v, ts[j]? = some t → vs[j]? = some v → Value.okWide P w .any base t v) → DataW.TrodAll enc P w 0 (fun _ => true) true ts vs ds ps → ∃ x, Q x ∧ RepL (memOf w) (as x) vs := by
 induction h with
 | nil =>
  intro H enc w base vs ds ps _ hd
  cases vs with
  | nil => exact ⟨(), trivial, by simp⟩
  | cons v vs => cases ds <;> simp [DataW.TrodAll] at hd
 | cons h ha k ih =>
  intro H enc w base vs ds ps hv hd
  cases vs with
  | nil => cases ds <;> simp [DataW.TrodAll] at hd
  | cons v vs =>
   cases ds with
   | nil => simp [DataW.TrodAll] at hd
   | cons d ds =>
    obtain ⟨p, q, ⟨fuel, h1⟩, h2, _⟩ := hd
    obtain ⟨x1, q1, r1⟩ := h (fun _ => rfl) h1
    obtain ⟨x2, q2, r2⟩ := ih (base := base) (fun j t v ht hv' => hv (j + 1) t v (by simpa using ht) (by simpa using hv')) h2
    refine ⟨(x1, x2), ⟨q1, q2⟩, ?_⟩
    rw [RepL.cons_iff]
    exact ⟨v, vs, rfl, ha w w base v x1 (hv 0 _ v rfl rfl) r1, r2⟩
theorem trodAll_len {H : Type} {enc : TypeId × Value → H} {w : World} {base : Nat} {sp : Nat → Bool} {held : Bool} : ∀ {ts : List TypeId} {vs : List Value} {ds : List (DataW H)} {ps : List MemPlace}, DataW.TrodAll enc P w base sp held ts vs ds ps → ds.length = ts.length
 | [], [], [], _, _ => rfl
 | t :: ts, v :: vs, d :: ds, _, h => by obtain ⟨p, q, _, h2, _⟩ := h; simp [trodAll_len h2]
 | [], [], _ :: _, _, h => h.elim
 | [], _ :: _, _, _, h => h.elim
 | _ :: _, [], _, _, h => h.elim
 | _ :: _, _ :: _, [], _, h => h.elim
theorem trodAll_stays {H : Type} {enc : TypeId × Value → H} (hl : laidOutB P = true) {W W' : World} {sp : Nat → Bool} (hb : Below W.heap.size W W') : ∀ {ts : List TypeId} {vs : List Value} {ds : List (DataW H)} {ps : List MemPlace},
  (∀ t ∈ ts, P.readableRec t = true ∧ t < P.types.size) → DataW.TrodAll enc P W 0 (fun _ => true) true ts vs ds ps → (∀ p ∈ ps, p.block < W.heap.size) → (∀ p ∈ ps, sp p.block = true) → DataW.TrodAll enc P W' 0 sp true ts vs ds ps
 | [], [], [], _, _, h, _, _ => h
 | t :: ts, v :: vs, d :: ds, _, hr, h, hlt, hsp => by
  obtain ⟨p, q, h1, h2, rfl⟩ := h
  obtain ⟨r1, r2⟩ := hr t (by simp)
  exact ⟨p, q, WideElems.Trod_stays hl r1 r2 h1 (fun x hx => hb.same (hlt x (by simp [hx]))) (fun x hx => hsp x (by simp [hx])),
   trodAll_stays hl hb (fun u hu => hr u (by simp [hu])) h2 (fun x hx => hlt x (by simp [hx])) (fun x hx => hsp x (by simp [hx])), rfl⟩
 | [], [], _ :: _, _, _, h, _, _ => h.elim
 | [], _ :: _, _, _, _, h, _, _ => h.elim
 | _ :: _, [], _, _, _, h, _, _ => h.elim
 | _ :: _, _ :: _, [], _, _, h, _, _ => h.elim
theorem post_of_old {H : Type} {enc : TypeId × Value → H} {f : Func} {s : ChangeSpec} {apart fresh handsOn again : Bool} {W W' : World} {args : Array Value} {v : Value} {ds gs : List (DataW H)} {before pa pv : List MemPlace}
  (hW : DataW.Whole enc P f.params.toList s.vars apart W args.toList ds gs before)
  (hres : ∀ (b : Nat) (sp : Nat → Bool) (hd : Bool), DataW.TrodAll enc P W' b sp hd f.resultTypes.toList (v.resultList f.resultTypes.size) (s.fn H (ds ++ gs)).results [])
  (hargs : ∀ sp : Nat → Bool, (∀ p ∈ before, sp p.block = true) → DataW.TrodAll enc P W' 0 sp true f.params.toList args.toList (s.fn H (ds ++ gs)).args pa)
  (hvars : ∀ sp : Nat → Bool, (∀ p ∈ before, sp p.block = true) → DataW.TrodVars enc P W' sp s.vars (s.fn H (ds ++ gs)).vars pv)
  (hps : before = pa ++ pv) (hk : W.keptBut W' (· ∈ before)) (hfz : ∀ a : Addr, a.block < W.heap.size → W'.frozen? a = W.frozen? a)
  (hok : ∀ (j : Nat) (t : TypeId) (r : Value), f.resultTypes[j]? = some t → (v.resultList f.resultTypes.size)[j]? = some r → Value.okWide P W' .any 0 t r) :
  s.post enc P f apart fresh handsOn again W args v W' := by
 have hold : ∀ p ∈ before, (fun b => decide (b < W.heap.size)) p.block = true := fun p hp => by simpa using hW.lt p hp
 refine ⟨ds, gs, before, [], pa, pv, hW, hres _ _ _, hargs _ hold, hvars _ hold, World.keptBut_mono (fun p hp => ⟨hp, ?_⟩) hk, fun _ => ?_⟩
 ·rw [hps, List.mem_append] at hp
  exact Or.inr hp
 ·have hlt := hW.lt
  obtain ⟨_, _, _, _, _, hz, hn⟩ := hW
  refine ⟨hok, _, _, ([] ++ pa) ++ pv, ⟨[] ++ pa, pv, trodAll_append (hargs _ (fun _ _ => rfl)) (hres _ _ _), hvars _ (fun _ _ => rfl), rfl, ?_, ?_⟩, ?_⟩
  ·intro b off hp
   have hp' : MemPlace.cell b off ∈ before := by rw [hps]; simpa using hp
   rw [hfz _ (hlt _ hp')]
   exact hz b off hp'
  ·intro ha
   have := hn ha
   rw [hps] at this
   simpa using this
  ·intro p hp _
   rw [hps]
   simpa using hp
theorem law_contract {H : Type} {enc : TypeId × Value → H} {glob : Nat → Option (List AV)} {f : FuncId} {fn : Func} {s : ChangeSpec} {t4 : TypeId} {apart fresh handsOn again : Bool} {av : α → List AV} {Q : α → Prop}
  (hl : laidOutB P = true) (hvars : s.vars = []) (hs : ∀ ds : List (DataW H), ds.length = fn.params.size → s.fn H ds = { results := [.lit (.bool true)], args := ds }) (hrt : fn.resultTypes = #[t4]) (ht4 : P.underlying t4 = some .bool)
  (hread : ∀ t ∈ fn.params.toList, P.readableRec t = true ∧ t < P.types.size) (hA : ReadsA P fn.params.toList α av Q) (hcomp : ∀ x, Q x → Comp P glob f (av x) (gB true))
  {W : World} {base : Nat} {args : Array Value} {ds gs : List (DataW H)} {before : List MemPlace} (hval : ∀ (j : Nat) t v, fn.params[j]? = some t → args[j]? = some v → Value.okWide P W .any base t v)
  (hW : DataW.Whole enc P fn.params.toList s.vars apart W args.toList ds gs before) (hg : GlobOk (mkCx P (Tabs.bare glob) 0 (fun _ => .tree) (fun _ _ => none)) (memOf W)) :
  Calls P f args W fun e W' => ∃ v, e = .returned v ∧ s.post enc P fn apart fresh handsOn again W args v W' := by
 have hW' := hW
 obtain ⟨p, q, hA0, hV, rfl, hfz, hnd⟩ := hW
 rw [hvars] at hV
 obtain ⟨rfl, rfl⟩ := trodVars_none hV
 obtain ⟨x, hq, hr⟩ := readsA hA (base := base) (fun j t v h1 h2 => hval j t v (by simpa using h1) (by simpa using h2)) hA0
 have hc := (hcomp x hq).2 (memOf W) args.toList (fun b h => h) hr hg
 rw [callsIn_one] at hc
 refine hc.mono fun e W' ⟨v, he, M', hw, hle, _, _, _, hrv, hbl⟩ => ?_
 have hv : v = .bool true := by unfold gB Rep at hrv; exact hrv
 subst hv; subst he
 have hbl : Below W.heap.size W W' := hbl
 have hlt : ∀ y ∈ p, y.block < W.heap.size := fun y hy => by simpa using hW'.lt y (by simpa using hy)
 have hfn := hs ds (by have := trodAll_len hA0; simpa using this)
 refine ⟨_, rfl, post_of_old (pa := p) (pv := []) hW' (fun b sp hd => ?_) (fun sp hsp => ?_) (fun sp _ => ?_) rfl (hbl.frame _) (fun a ha => hbl.frozen ha) (ok_one hrt rfl (okWide_bool_mk ht4 true))⟩
 ·rw [List.append_nil, hfn, hrt]
  exact trodAll_mk1 (shut_bool ht4 true)
 ·rw [List.append_nil, hfn]
  exact trodAll_stays hl hbl hread hA0 hlt (fun y hy => hsp y (by simpa using hy))
 ·rw [hvars]
  show DataW.TrodVars enc P W' sp [] ((s.fn H (ds ++ [])).vars) []
  rw [List.append_nil, hfn]; rfl
end
end Go.Vm

namespace Go.Vm
def eqL (f : AV → AV → Bool) : List AV → List AV → Bool
 | [], [] => true
 | a :: as, b :: bs => bif f a b then eqL f as bs else false
 | _, _ => false
def eqA : Nat → AV → AV → Bool
 | 0, _, _ => false
 | n + 1, a, b => match a, b with
  | .v (.int k x), .v (.int k' y) => decide (k = k') && decide (x = y)
  | .v (.bool x), .v (.bool y) => x == y
  | .v (.string x), .v (.string y) => x.data.toList == y.data.toList
  | .v (.slice none 0 0), .v (.slice none 0 0) => true
  | .agg cs, .agg ds => eqL (eqA n) cs ds
  | .rsl s es ex, .rsl s' es' ex' => Nat.beq s s' && (ex == ex') && eqL (eqA n) es es'
  | _, _ => false
theorem eqL_eq {f : AV → AV → Bool} (hf : ∀ a b, f a b = true → a = b) : ∀ (l m : List AV), eqL f l m = true → l = m
 | [], [], _ => rfl
 | a :: l, b :: m, h => by
  simp only [eqL] at h
  cases hab : f a b with
  | false => simp [hab] at h
  | true =>
   simp only [hab, cond_true] at h
   rw [hf a b hab, eqL_eq hf l m h]
 | [], _ :: _, h => by simp [eqL] at h
 | _ :: _, [], h => by simp [eqL] at h
theorem eqA_eq : ∀ (n : Nat) (a b : AV), eqA n a b = true → a = b
 | 0, a, b, h => by simp [eqA] at h
 | n + 1, a, b, h => by
  unfold eqA at h
  split at h
  ·simp only [Bool.and_eq_true, decide_eq_true_eq] at h; rw [h.1, h.2]
  ·rw [eq_of_beq h]
  ·have h1 := eq_of_beq h
   rename_i x y
   have h2 : x.data = y.data := Array.toList_inj.1 h1
   cases x; cases y; simp only at h2; rw [h2]
  ·rfl
  ·rw [eqL_eq (eqA_eq n) _ _ h]
  ·simp only [Bool.and_eq_true] at h
   rw [Nat.eq_of_beq_eq_true h.1.1, eq_of_beq h.1.2, eqL_eq (eqA_eq n) _ _ h.2]
  ·cases h
def atG (l : List AV) (r : AV) (as : List AV) : Option AV := bif eqL (eqA 20) as l then some r else none
theorem at_holds {P : Program} {glob : Nat → Option (List AV)} {f : FuncId} {l : List AV} {r : AV} (h : Comp P glob f l r) : Holds1 P glob f (atG l r) := fun as q hq => by
 unfold atG at hq
 cases he : eqL (eqA 20) as l with
 | false => simp [he] at hq
 | true =>
  simp only [he, cond_true, Option.some.injEq] at hq
  subst hq
  rw [eqL_eq (eqA_eq 20) _ _ he]; exact h
end Go.Vm

namespace Go.Vm
section
variable {α τ : Type} {C : Cx} {p nt : Nat} {rd : Bool} {c : Code}
theorem LoopRun.find (f : Nat → α → Option τ) (enc : Nat → St) (out : τ → St) (miss : St) (ex2 : Ex) (ex : τ → Ex) (l : List α) (hx2 : ex2 ≠ .nrm) (hx : ∀ t, ex t ≠ .nrm)
  (hr : ∀ i x, l[i]? = some x → match f i x with
   | some t => Says C p nt rd c (enc i) (ex t) (out t)
   | none => Says C p nt rd c (enc i) .nrm (enc (i + 1)))
  (he : Says C p nt rd c (enc l.length) ex2 miss) :
  LoopRun C p nt rd c (enc 0) ((srch f 0 l).elim ex2 ex) ((srch f 0 l).elim miss out) := by
 have h := LoopRun.search hx2 hx hr he
 cases hq : srch f 0 l with
 | none => rw [hq] at h; exact h
 | some t => rw [hq] at h; exact h
end
end Go.Vm
namespace Go.Vm
def nilS : AV := .v (.slice none 0 0)
def blSt (key sz : Nat) (ts : List Tmp) (nf : Nat) (vs : AV → List AV) : List AV → St
 | [] => mkSt ts [] nf (vs nilS) []
 | a :: as => mkSt ts [key] nf (vs (.sl key 0 sz 0 (a :: as).length)) [(false, .arr sz (a :: as) false)]
def gath {α β : Type} (g : Nat → α → List β) : Nat → List α → List β
 | _, [] => []
 | i, x :: r => g i x ++ gath g (i + 1) r
theorem gath_map {α β : Type} (g : α → β) : ∀ (l : List α) (i : Nat), gath (fun _ x => [g x]) i l = l.map g
 | [], _ => rfl
 | x :: r, i => by unfold gath; rw [gath_map g r]; rfl
section
variable {α β : Type} {C : Cx} {p nt : Nat} {rd : Bool} {c : Code}
theorem LoopRun.gather (g : Nat → α → List β) (b : Nat) (hb : ∀ i x, (g i x).length ≤ b) (enc : Nat → List β → St) (ex : Ex) (out : List β → St) (l : List α) (hx : ex ≠ .nrm)
  (hs : ∀ i x acc, l[i]? = some x → acc.length ≤ i * b → Says C p nt rd c (enc i acc) .nrm (enc (i + 1) (acc ++ g i x)))
  (hf : ∀ acc, acc.length ≤ l.length * b → Says C p nt rd c (enc l.length acc) ex (out acc)) :
  LoopRun C p nt rd c (enc 0 []) ex (out (gath g 0 l)) := by
 have key : ∀ (rest pre : List α) (acc : List β), pre ++ rest = l → acc.length ≤ pre.length * b → LoopRun C p nt rd c (enc pre.length acc) ex (out (acc ++ gath g pre.length rest)) := by
  intro rest
  induction rest with
  | nil =>
   intro pre acc h ha
   rw [List.append_nil] at h
   subst h
   unfold gath
   rw [List.append_nil]
   exact .done (hf acc ha) hx
  | cons x r ih =>
   intro pre acc h ha
   have hxl : l[pre.length]? = some x := by rw [← h]; simp
   unfold gath
   rw [← List.append_assoc]
   have := ih (pre ++ [x]) (acc ++ g pre.length x) (by rw [← h]; simp) (by
    have := hb pre.length x
    simp only [List.length_append, List.length_cons, List.length_nil, Nat.zero_add, Nat.add_mul, Nat.one_mul]; omega)
   simp only [List.length_append, List.length_cons, List.length_nil, Nat.zero_add] at this
   exact .step (hs _ _ _ hxl ha) this
 have := key l [] [] rfl (Nat.zero_le _)
 simpa using this
end
end Go.Vm
namespace Go.Vm
def FzV (k sz : Nat) (es : List AV) (a a' : AV) : Prop :=
 (∀ (M : Mem) (y : Value), Rep M a y → Rep M.bare a' y) ∨ (a = .sl k 0 sz 0 es.length ∧ a' = .rsl sz es false)
theorem FzV.same {k sz : Nat} {es : List AV} {a : AV} (h : closed a = true) : FzV k sz es a a := .inl fun M y hy => by
 have hl : RepL M [a] [y] := by simp only [RepL.cons_iff, RepL.nil_iff]; exact ⟨_, _, rfl, hy, rfl⟩
 have h2 := closedL_rep (cs := [a]) (by simp [h]) hl
 simp only [RepL.cons_iff, RepL.nil_iff] at h2
 obtain ⟨z, zs, he, hz, _⟩ := h2
 simp only [List.cons.injEq] at he
 rw [he.1]; exact hz
theorem FzV.sl {k sz n : Nat} {es : List AV} (h : n = es.length) : FzV k sz es (.sl k 0 sz 0 n) (.rsl sz es false) := .inr ⟨by rw [h], rfl⟩
inductive All2 {α β : Type} (R : α → β → Prop) : List α → List β → Prop where
 | nil : All2 R [] []
 | cons {a : α} {b : β} {as : List α} {bs : List β} (h : R a b) (k : All2 R as bs) : All2 R (a :: as) (b :: bs)
theorem mkT_rel {R : AV → AV → Prop} {vs vs' : List AV} (h : All2 R vs vs') : ∀ (ts : List Tmp) (T T' : Tr AV), (∀ i x', T'.get i = some x' → ∃ x, T.get i = some x ∧ R x x') →
  ∀ i x', (mkT ts vs' T').get i = some x' → ∃ x, (mkT ts vs T).get i = some x ∧ R x x' := by
 induction h with
 | nil => intro ts T T' hT i x' hx; cases ts <;> exact hT i x' hx
 | @cons a b as bs hab _ ih =>
  intro ts T T' hT i x' hx
  cases ts with
  | nil => exact hT i x' hx
  | cons t ts =>
   refine ih ts (T.set t a) (T'.set t b) (fun j z hz => ?_) i x' hx
   rcases Tr.get_set hz with ⟨rfl, rfl⟩ | ⟨hj, hz⟩
   ·exact ⟨a, Tr.get_set_self .., hab⟩
   ·obtain ⟨z', h1, h2⟩ := hT j z hz
    exact ⟨z', by rw [Tr.get_set_ne hj]; exact h1, h2⟩
theorem Now.freezeSl {base : Nat} {im0 : Nat → Prop} {nt lo : Nat} {M0 : Mem} {ts : List Tmp} {key sz nf : Nat} {vs vs' : List AV} {es : List AV} {x : Bool} {a : Act} {w : World}
  (h : Now base im0 nt lo M0 (mkSt ts [key] nf vs [(false, .arr sz es x)]) a w) (hmu : ∀ r, M0.mu r = none) (hc : ClosedL es) (hv : All2 (FzV key sz es) vs vs') :
  Now base im0 nt lo M0 (mkSt ts [] nf vs' []) a w := by
 obtain ⟨M, rfl, hle0, hb0, hT, hs, hm⟩ := h
 have hk : (mkSt ts [key] nf vs [(false, .arr sz es x)]).H.get key = some { ver := 0, fz := false, blk := .arr sz es x } := Tr.get_set_self ..
 obtain ⟨b, ct, hE⟩ := hs.ent key _ hk
 obtain ⟨arr, ty, ys, hb, hrep, hsd, has, hlen, hex, htk⟩ := hE.blk
 have hblk : BlkIs M.bare b ct (.arr sz es x) := ⟨arr, ty, ys, hb, hc _ _ hrep, hsd, has, hlen, hex, htk⟩
 obtain ⟨hle1, hs1⟩ := hs.freeze hk hE (.arr sz es x) hblk
 generalize hM1 : ({ M with imm := fun x => M.imm x ∨ x = b } : Mem) = M1 at hle1 hs1
 have hw1 : M1.w = M.w := by rw [← hM1]
 have rep : ∀ v v' y, FzV key sz es v v' → Rep M v y → Rep M1.bare v' y := by
  intro v v' y hvv hy
  rcases hvv with h | ⟨rfl, rfl⟩
  ·exact (h M y hy).mono (Mem.le_bare hle1)
  ·have hy1 := hy.mono hle1
   unfold Rep at hy1 ⊢
   obtain ⟨b2, ct2, o, hmm, hct, rfl, ho⟩ := hy1
   have hmu1 : M1.mu 0 = some (b, ct) := by rw [← hM1]; exact hE.mu
   obtain ⟨rfl, rfl⟩ := mu_eq hmu1 hmm
   refine ⟨some ⟨b, o, none⟩, ct - 0, ys, rfl, by omega, ?_, hsd, .inl ⟨b, o, rfl, ?_⟩, fun hx => by cases hx⟩
   ·exact (hc _ _ hrep).mono (Mem.le_bare hle1)
   ·by_cases hlo : 0 < ct
    ·rw [ho hlo, ← htk]
     have hbn : M1.w.heap[b]? = some (.cells arr ty (0, 0)) := by rw [hw1]; exact hb
     have hi : M1.imm b := by rw [← hM1]; exact .inr rfl
     have := Mem.row_take (es.length * sz) (Mem.row_of_cells (M := M1.bare) (o := 0) hbn hi)
     simpa using this
    ·have : es.length = 0 := by omega
     have : ys = [] := by
      have hl := hrep.length
      cases ys with
      | nil => rfl
      | cons _ _ => simp at hl; omega
     subst this
     simp [flat, Mem.row_nil]
 refine ⟨M1.bare, hw1, ?_, hb0, ⟨hT.1, fun i x' hx => ?_⟩, ?_, ?_⟩
 ·exact ⟨fun r x hx => (by rw [hmu r] at hx; cases hx), fun b hb => hle1.imm b (hle0.imm b hb), fun b hb => (hle1.same b (hle0.imm b hb)).trans (hle0.same b hb), hle1.cok.trans hle0.cok⟩
 ·obtain ⟨z, h1, h2⟩ := mkT_rel hv ts .leaf .leaf (fun i x' hx => by rw [Tr.get_leaf] at hx; cases hx) i x' hx
  exact ⟨(hT.2 i z h1).1, rep _ _ _ h2 (hT.2 i z h1).2⟩
 ·exact {
   ent := fun k e he => by
    have he : (Tr.leaf : Tr Ent).get k = some e := he
    rw [Tr.get_leaf] at he; cases he
   inj := fun k e k' e' b ct ct' he => by
    have he : (Tr.leaf : Tr Ent).get k = some e := he
    rw [Tr.get_leaf] at he; cases he
   fresh := fun r x hx => by cases hx
   lt := hs1.lt
   old := hs1.old
   lo := hs1.lo
   new := hs1.new
   size := hs1.size }
 ·obtain ⟨rs, e, h1, h2⟩ := hm
  exact ⟨rs, e, h1, fun r hr => ⟨(h2 r hr).1, hle1.imm r (h2 r hr).2.1, (hle1.same r (h2 r hr).2.1).trans (h2 r hr).2.2⟩⟩
theorem Says.freezeSl {C : Cx} {nt : Nat} {rd : Bool} {c : Code} {st : St} {ex : Ex} {ts : List Tmp} {key sz nf : Nat} {vs vs' : List AV} {es : List AV} {x : Bool}
  (h : Says C 0 nt rd c st ex (mkSt ts [key] nf vs [(false, .arr sz es x)])) (hc : ClosedL es) (hv : All2 (FzV key sz es) vs vs') : Says C 0 nt rd c st ex (mkSt ts [] nf vs' []) :=
 ⟨fun ro hro base im0 lo M0 a w hcok hg hlo hmu hn => wpIn_mono (h.run ro hro base im0 lo M0 a w hcok hg hlo hmu hn) fun _e _a' _w' ⟨he, hn'⟩ => ⟨he, hn'.freezeSl (fun r => hmu r (Nat.zero_le r)) hc hv⟩⟩
theorem Says.weak {C : Cx} {nt : Nat} {rd : Bool} {c : Code} {st : St} {ex : Ex} {ts : List Tmp} {nf p : Nat} {vs vs' : List AV} {ks : List Nat} {es : List (Bool × Blk)}
  (h : Says C p nt rd c st ex (mkSt ts ks nf vs es)) (hv : All2 Weak vs vs') : Says C p nt rd c st ex (mkSt ts ks nf vs' es) :=
 ⟨fun ro hro base im0 lo M0 a w hcok hg hlo hmu hn => wpIn_mono (h.run ro hro base im0 lo M0 a w hcok hg hlo hmu hn) fun e a' w' ⟨he, M, hw, hle, hb, hT, hs, hm⟩ => ⟨he, M, hw, hle, hb, ⟨hT.1, fun i x' hx => by
  obtain ⟨z, h1, h2⟩ := mkT_rel hv ts .leaf .leaf (fun i x' hx => by rw [Tr.get_leaf] at hx; cases hx) i x' hx
  exact ⟨(hT.2 i z h1).1, h2 _ _ (hT.2 i z h1).2⟩⟩, hs, hm⟩⟩
end Go.Vm
namespace Go.Vm
theorem Says.blEnd {C : Cx} {nt : Nat} {rd : Bool} {c : Code} {st : St} {ex : Ex} {ts : List Tmp} {key sz nf : Nat} {acc : List AV}
  (h : Says C 0 nt rd c st ex (blSt key sz ts nf (fun a => [a]) acc)) (hc : ClosedL acc) : Says C 0 nt rd c st ex (mkSt ts [] nf [.rsl sz acc false] []) := by
 cases acc with
 | nil => exact h.weak (.cons Weak.nilSl .nil)
 | cons a as => exact h.freezeSl hc (.cons (FzV.sl rfl) .nil)
end Go.Vm

namespace Go.Vm
def bseq (x y : ByteArray) : Bool := x.toList == y.toList
theorem bseq_eq (x y : ByteArray) : (x == y) = bseq x y := by
 unfold bseq
 rw [ByteArray.toList_eq, ByteArray.toList_eq]
 have e : (x == y) = (x.data == y.data) := by cases x; cases y; rfl
 rw [e, Bool.eq_iff_iff, beq_iff_eq, beq_iff_eq]
 exact ⟨fun h => by rw [h], fun h => Array.toList_inj.1 h⟩
def findIx (s : ByteArray) : List ByteArray → Nat → Option Nat
 | [], _ => none
 | a :: r, i => bif bseq s a then some i else findIx s r (i + 1)
theorem findK_str {C : Cx} {kt : TypeId} (s : ByteArray) : ∀ (ks : List ByteArray) (i : Nat), findK (eqK C kt .string (.string s)) (ks.map sA) i = some (findIx s ks i)
 | [], _ => rfl
 | a :: r, i => by
  show (match some (s == a) with | some true => some (some i) | some false => findK (eqK C kt .string (.string s)) (r.map sA) (i + 1) | none => none) = _
  rw [bseq_eq]
  unfold findIx
  cases bseq s a with
  | true => rfl
  | false => exact findK_str s r (i + 1)
structure StrMap (C : Cx) (t : TypeId) (z : Value) : Prop where
 ex : ∃ ti kt et kti eti, C.ty t = some ti ∧ ti.desc = .map kt et ∧ C.ty kt = some kti ∧ kti.desc = .string ∧ C.ty et = some eti ∧ eti.zero = some z
theorem StrMap.key {C : Cx} {t : TypeId} {z : Value} (_h : StrMap C t z) {kt : TypeId} {kti : TI} (h3 : C.ty kt = some kti) (h4 : kti.desc = .string) (ks : List ByteArray) (b : Bool) (s : ByteArray) : keyAt C kt (ks.map sA) b (.string s) = some (findIx s ks 0) := by
 unfold keyAt
 rw [h3]
 simp only [h4, keyKind, cond_true]
 exact findK_str s ks 0
theorem StrMap.look {C : Cx} {t : TypeId} {z : Value} (h : StrMap C t z) (H : Tr Ent) (ks : List ByteArray) (vs : List AV) (s : ByteArray) (ok : Bool) :
  alookup C H t (.rmp (ks.map sA) vs) (sA s) ok = match findIx s ks 0 with
   | some j => (vs[j]?).map fun v => bif ok then .tup [v, gB true] else v
   | none => some (bif ok then .tup [ofV z, gB false] else ofV z) := by
 obtain ⟨ti, kt, et, kti, eti, h1, h2, h3, h4, h5, h6⟩ := h.ex
 have hk := h.key h3 h4 ks (ks.map sA).isEmpty s
 obtain ⟨d, _, _, _, _⟩ := ti
 obtain ⟨_, _, _, _, z'⟩ := eti
 simp only at h2 h6
 subst h2; subst h6
 unfold alookup
 rw [h1]
 show (match C.ty et, keyAt C kt (ks.map sA) (ks.map sA).isEmpty (.string s) with | some _, some (some j) => _ | some { zero := some z, .. }, some none => _ | _, _ => none) = _
 rw [h5, hk]
 cases findIx s ks 0 <;> rfl
theorem StrMap.add {C : Cx} {t : TypeId} {z : Value} (h : StrMap C t z) {ks : List ByteArray} {vs : List AV} {s : ByteArray} {v : AV} (hn : findIx s ks 0 = none) :
  mapUpd C t (ks.map sA) vs (sA s) v = some ((ks ++ [s]).map sA, vs ++ [v]) := by
 obtain ⟨ti, kt, et, kti, eti, h1, h2, h3, h4, h5, h6⟩ := h.ex
 have hk := h.key h3 h4 ks false s
 obtain ⟨d, _, _, _, _⟩ := ti
 simp only at h2
 subst h2
 unfold mapUpd
 rw [h1]
 show (match keyAt C kt (ks.map sA) false (.string s) with | some (some j) => _ | some none => some (ks.map sA ++ [sA s], vs ++ [v]) | none => none) = _
 rw [hk, hn]
 simp
def strMapB (C : Cx) (t kt et : TypeId) (zb : Value → Bool) : Bool :=
 match C.ty t, C.ty kt, C.ty et with
 | some ti, some kti, some eti => (match ti.desc with | .map a b => Nat.beq a kt && Nat.beq b et | _ => false) && (match kti.desc with | .string => true | _ => false) && (match eti.zero with | some z => zb z | none => false)
 | _, _, _ => false
theorem strMap_of {C : Cx} {t kt et : TypeId} {zb : Value → Bool} {z : Value} (hz : ∀ v, zb v = true → v = z) (h : strMapB C t kt et zb = true) : StrMap C t z := by
 unfold strMapB at h
 split at h
 ·rename_i ti kti eti h1 h2 h3
  simp only [Bool.and_eq_true] at h
  obtain ⟨⟨a, b⟩, c⟩ := h
  split at a
  ·rename_i a' b' hd
   simp only [Bool.and_eq_true] at a
   obtain ⟨a1, a2⟩ := a
   have e1 := Nat.eq_of_beq_eq_true a1
   have e2 := Nat.eq_of_beq_eq_true a2
   subst e1; subst e2
   split at b
   ·rename_i hk
    split at c
    ·rename_i z' hz'
     exact ⟨ti, a', b', kti, eti, h1, hd, h2, hk, h3, by rw [hz', hz _ c]⟩
    ·cases c
   ·cases b
  ·cases a
 ·cases h
def isZero : Value → Bool
 | .int .i64 n => n == 0
 | _ => false
theorem isZero_eq : ∀ v, isZero v = true → v = .int .i64 0 := fun v h => by
 unfold isZero at h; split at h
 ·rw [beq_iff_eq] at h; rw [h]
 ·cases h
end Go.Vm

namespace Go.Vm
section
variable {α β : Type} {R : α → β → Prop}
theorem All2.get {as : List α} {bs : List β} (h : All2 R as bs) : ∀ {j : Nat} {b : β}, bs[j]? = some b → ∃ a, as[j]? = some a ∧ R a b := by
 induction h with
 | nil => intro j b hb; simp at hb
 | cons h _ ih =>
  intro j b hb
  cases j with
  | zero => simp only [List.getElem?_cons_zero, Option.some.injEq] at hb; subst hb; exact ⟨_, rfl, h⟩
  | succ j => rw [List.getElem?_cons_succ] at hb ⊢; exact ih hb
theorem All2.length {as : List α} {bs : List β} (h : All2 R as bs) : as.length = bs.length := by
 induction h with
 | nil => rfl
 | cons _ _ ih => simp [ih]
end
theorem RepL.all2 {M M' : Mem} {as bs : List AV} (h : All2 (fun a b => ∀ y, Rep M a y → Rep M' b y) as bs) : ∀ {ys : List Value}, RepL M as ys → RepL M' bs ys := by
 induction h with
 | nil => intro ys hr; exact (RepL.nil_iff.1 hr) ▸ RepL.nil_iff.2 rfl
 | cons h _ ih =>
  intro ys hr
  rw [RepL.cons_iff] at hr ⊢
  obtain ⟨x, xs, e, h1, h2⟩ := hr
  exact ⟨x, xs, e, h x h1, ih h2⟩
theorem All2.mono {α β : Type} {R S : α → β → Prop} (hs : ∀ a b, R a b → S a b) {as : List α} {bs : List β} (h : All2 R as bs) : All2 S as bs := by
 induction h with
 | nil => exact .nil
 | cons h _ ih => exact .cons (hs _ _ h) ih
structure FzM (r0 sz : Nat) (es : List AV) (M M' : Mem) : Prop where
 mu : ∀ r, r < r0 → M'.mu r = M.mu r
 w : M'.w = M.w
 imm : M'.imm = M.imm
 sl : ∀ k y, Rep M (.sl k r0 sz 0 es.length) y → Rep M' (.rsl sz es false) y
def FzS (r0 sz : Nat) (es : List AV) (a a' : AV) : Prop := ∀ (M M' : Mem) (y : Value), FzM r0 sz es M M' → Rep M a y → Rep M' a' y
section
variable {r0 sz : Nat} {es : List AV}
theorem FzM.lw {M M' : Mem} (h : FzM r0 sz es M M') : M.bare.lw M' := ⟨fun _ _ x => (by cases x), fun b o hb ho _ => ⟨by rw [h.imm]; exact hb, by rw [h.w]; exact ho⟩⟩
theorem FzS.cl {a : AV} (h : closed a = true) : FzS r0 sz es a a := fun M M' y hf hy => by
 have hl : RepL M [a] [y] := by simp only [RepL.cons_iff, RepL.nil_iff]; exact ⟨_, _, rfl, hy, rfl⟩
 have h2 := closedL_rep (cs := [a]) (by simp [h]) hl
 simp only [RepL.cons_iff, RepL.nil_iff] at h2
 obtain ⟨z, zs, he, hz, _⟩ := h2
 simp only [List.cons.injEq] at he
 rw [he.1]; exact hz.monoW hf.lw
theorem FzS.sl {k n : Nat} (h : n = es.length) : FzS r0 sz es (.sl k r0 sz 0 n) (.rsl sz es false) := fun _ _ y hf hy => by rw [h] at hy; exact hf.sl k y hy
theorem FzS.ptr {k r off : Nat} (h : r < r0) : FzS r0 sz es (.ptr k r off) (.ptr k r off) := fun M M' y hf hy => by
 unfold Rep at hy ⊢; obtain ⟨b, ct, h1, h2⟩ := hy; exact ⟨b, ct, (hf.mu r h).trans h1, h2⟩
theorem FzS.sl' {k r sz' lo n : Nat} (h : r < r0) : FzS r0 sz es (.sl k r sz' lo n) (.sl k r sz' lo n) := fun M M' y hf hy => by
 unfold Rep at hy ⊢; obtain ⟨b, ct, o, h1, h2⟩ := hy; exact ⟨b, ct, o, (hf.mu r h).trans h1, h2⟩
theorem FzS.mp {k r : Nat} (h : r < r0) : FzS r0 sz es (.mp k r) (.mp k r) := fun M M' y hf hy => by
 unfold Rep at hy ⊢; obtain ⟨b, ct, h1, h2⟩ := hy; exact ⟨b, ct, (hf.mu r h).trans h1, h2⟩
theorem FzS.itr {k r : Nat} (h : r < r0) : FzS r0 sz es (.itr k r) (.itr k r) := fun M M' y hf hy => by
 unfold Rep at hy ⊢; obtain ⟨b, ct, h1, h2⟩ := hy; exact ⟨b, ct, (hf.mu r h).trans h1, h2⟩
theorem FzS.yld {k r : Nat} (h : r < r0) : FzS r0 sz es (.yld k r) (.yld k r) := fun M M' y hf hy => by
 unfold Rep at hy ⊢; obtain ⟨b, ct, h1, h2⟩ := hy; exact ⟨b, ct, (hf.mu r h).trans h1, h2⟩
theorem FzS.agg {as bs : List AV} (h : All2 (FzS r0 sz es) as bs) : FzS r0 sz es (.agg as) (.agg bs) := fun M M' y hf hy => by
 unfold Rep at hy ⊢; obtain ⟨l, e, k⟩ := hy; exact ⟨l, e, RepL.all2 (h.mono fun _ _ k y => k M M' y hf) k⟩
theorem FzS.fn {f : Fn} {as bs cs ds : List AV} (h : All2 (FzS r0 sz es) as bs) (k : All2 (FzS r0 sz es) cs ds) : FzS r0 sz es (.fn f as cs) (.fn f bs ds) := fun M M' y hf hy => by
 unfold Rep at hy ⊢; obtain ⟨l, c, e, k1, k2⟩ := hy; exact ⟨l, c, e, RepL.all2 (h.mono fun _ _ k y => k M M' y hf) k1, RepL.all2 (k.mono fun _ _ k y => k M M' y hf) k2⟩
theorem FzS.bad {a : AV} : FzS r0 sz es a .bad := fun M M' y _ _ => by unfold Rep; trivial
end
theorem FzS.all {r0 sz : Nat} {es : List AV} : ∀ {as : List AV}, (∀ a ∈ as, closed a = true) → All2 (FzS r0 sz es) as as
 | [], _ => .nil
 | a :: r, h => .cons (FzS.cl (h a (by simp))) (FzS.all fun b hb => h b (by simp [hb]))
inductive FzB (r0 sz : Nat) (es : List AV) : Bool × Blk → Bool × Blk → Prop
 | box {cs cs' : List AV} (h : All2 (FzS r0 sz es) cs cs') : FzB r0 sz es (false, .box cs) (false, .box cs')
 | fz {b : Blk} : FzB r0 sz es (true, b) (true, b)
 | arr {s : Nat} {l : List AV} {x : Bool} (h : ClosedL l) : FzB r0 sz es (false, .arr s l x) (false, .arr s l x)
 | map {ks vs : List AV} (h : ClosedL ks) (k : ClosedL vs) : FzB r0 sz es (false, .map ks vs) (false, .map ks vs)
 | siter {s : ByteArray} {p : Nat} : FzB r0 sz es (false, .siter s p) (false, .siter s p)
 | loop {fid fb nt : Nat} {T T' : Tr AV} {ps : List Tmp} {asg bd : Code} {pend : Option (Option Code)} (h : ∀ i x', T'.get i = some x' → ∃ x, T.get i = some x ∧ FzS r0 sz es x x') :
   FzB r0 sz es (false, .loop fid fb nt T ps asg bd pend) (false, .loop fid fb nt T' ps asg bd pend)
theorem FzB.blk {r0 sz : Nat} {es : List AV} {M M' : Mem} (hf : FzM r0 sz es M M') (hcok : M'.cok = M.cok) {b ct : Nat} {p q : Bool × Blk} (h : FzB r0 sz es p q) (hb : BlkIs M b ct p.2) (hz : p.1 = true → BlkIs M.bare b ct p.2) :
  q.1 = p.1 ∧ BlkIs M' b ct q.2 ∧ (q.1 = true → BlkIs M'.bare b ct q.2) := by
 have hbare : M'.bare = M.bare := by
  cases M; cases M'
  obtain ⟨_, h2, h3, _⟩ := hf
  simp only at h2 h3 hcok
  subst h2; subst h3; subst hcok; rfl
 have cl : ∀ {l : List AV} {ys : List Value}, ClosedL l → RepL M l ys → RepL M' l ys := fun hc hr => by
  have h1 := hc _ _ hr
  rw [← hbare] at h1
  exact h1.mono (Mem.bare_le M')
 refine ⟨?_, ?_⟩
 ·cases h <;> rfl
 ·cases h with
  | box h =>
   obtain ⟨arr, ty, h1, h2⟩ := hb
   exact ⟨⟨arr, ty, by rw [hf.w]; exact h1, RepL.all2 (h.mono fun _ _ k y => k M M' y hf) h2⟩, fun x => by cases x⟩
  | fz =>
   have h1 := hz rfl
   rw [← hbare] at h1
   exact ⟨BlkIs.mono (M := M'.bare) (M' := M') (Mem.bare_le M') rfl h1, fun _ => h1⟩
  | arr h =>
   obtain ⟨arr, ty, ys, h3, h4, h5⟩ := hb
   exact ⟨⟨arr, ty, ys, by rw [hf.w]; exact h3, cl h h4, h5⟩, fun x => by cases x⟩
  | map h k =>
   obtain ⟨es, c, h3, h4, h5⟩ := hb
   exact ⟨⟨es, c, by rw [hf.w]; exact h3, cl h h4, cl k h5⟩, fun x => by cases x⟩
  | siter =>
   have hb : M.w.heap[b]? = _ := hb
   exact ⟨by show M'.w.heap[b]? = _; rw [hf.w]; exact hb, fun x => by cases x⟩
  | loop h =>
   obtain ⟨l, h3, c1, c2, p1, p2, p3, p4, p5⟩ := hb
   refine ⟨⟨l, by rw [hf.w]; exact h3, hcok.symm ▸ c1, hcok.symm ▸ c2, p1, p2, p3, ⟨p4.1, fun i x' hi => ?_⟩, p5⟩, fun x => by cases x⟩
   obtain ⟨x, hx, hxx⟩ := h i x' hi
   exact ⟨(p4.2 i x hx).1, hxx M M' _ hf (p4.2 i x hx).2⟩
theorem nodupN_left : ∀ {a b : List Nat}, nodupN (a ++ b) = true → nodupN a = true
 | [], _, _ => rfl
 | x :: a, b, h => by
  simp only [List.cons_append, nodupN, Bool.and_eq_true, Bool.not_eq_true'] at h ⊢
  refine ⟨?_, nodupN_left h.2⟩
  cases hm : memN x a with
  | false => rfl
  | true =>
   have : x ∈ a ++ b := List.mem_append_left _ (memN_iff.1 hm)
   rw [memN_iff.2 this] at h; cases h.1
theorem Now.freezeLast {base : Nat} {im0 : Nat → Prop} {nt lo : Nat} {M0 : Mem} {ts : List Tmp} {ks : List Nat} {key sz nf : Nat} {vs vs' : List AV} {bs bs' : List (Bool × Blk)} {es : List AV} {x : Bool} {a : Act} {w : World}
  (h : Now base im0 nt lo M0 (mkSt ts (ks ++ [key]) nf vs (bs ++ [(false, .arr sz es x)])) a w) (hmu : ∀ r, ks.length ≤ r → M0.mu r = none) (hn : nodupN (ks ++ [key]) = true) (hlen : bs.length = ks.length) (hc : ClosedL es)
  (hv : All2 (FzS ks.length sz es) vs vs') (hbb : All2 (FzB ks.length sz es) bs bs') : Now base im0 nt lo M0 (mkSt ts ks nf vs' bs') a w := by
 obtain ⟨M, rfl, hle0, hb0, hT, hs, hm⟩ := h
 have at1 : ∀ {j k : Nat} {p : Bool × Blk}, ks[j]? = some k → bs[j]? = some p → (mkSt ts (ks ++ [key]) nf vs (bs ++ [(false, .arr sz es x)])).H.get k = some { ver := j, fz := p.1, blk := p.2 } := by
  intro j k p h1 h2
  have hj := (List.getElem?_eq_some_iff.1 h1).1
  have hj2 := (List.getElem?_eq_some_iff.1 h2).1
  have := mkH_at (ks ++ [key]) (bs ++ [(false, .arr sz es x)]) 0 .leaf hn (j := j) (by rw [List.getElem?_append_left hj]; exact h1) (by rw [List.getElem?_append_left hj2]; exact h2)
  rw [Nat.zero_add] at this
  exact this
 have hk : (mkSt ts (ks ++ [key]) nf vs (bs ++ [(false, .arr sz es x)])).H.get key = some { ver := ks.length, fz := false, blk := .arr sz es x } := by
  have := mkH_at (ks ++ [key]) (bs ++ [(false, .arr sz es x)]) 0 .leaf hn (j := ks.length) (k := key) (p := (false, .arr sz es x)) (by simp) (by rw [← hlen]; simp)
  rw [Nat.zero_add] at this
  exact this
 have hne : ∀ {j k : Nat}, ks[j]? = some k → k ≠ key := by
  intro j k h1 e
  have hj := (List.getElem?_eq_some_iff.1 h1).1
  have := nodupN_get hn (i := j) (j := ks.length) (k := k) (by rw [List.getElem?_append_left hj]; exact h1) (by rw [e]; simp)
  omega
 generalize hH : (mkSt ts (ks ++ [key]) nf vs (bs ++ [(false, .arr sz es x)])).H = H at hs hk at1
 obtain ⟨b, ct, hE⟩ := hs.ent key _ hk
 obtain ⟨arr, ty, ys, hb, hrep, hsd, has, hlen2, hex, htk⟩ := hE.blk
 have hblk : BlkIs M.bare b ct (.arr sz es x) := ⟨arr, ty, ys, hb, hc _ _ hrep, hsd, has, hlen2, hex, htk⟩
 obtain ⟨hle1, hs1⟩ := hs.freeze hk hE (.arr sz es x) hblk
 generalize hM1 : ({ M with imm := fun x => M.imm x ∨ x = b } : Mem) = M1 at hle1 hs1
 have hw1 : M1.w = M.w := by rw [← hM1]
 let M2 : Mem := { M1 with mu := fun r => if r < ks.length then M1.mu r else none }
 have hf : FzM ks.length sz es M1 M2 := by
  refine ⟨fun r hr => if_pos hr, rfl, rfl, fun k y hy => ?_⟩
  unfold Rep at hy ⊢
  obtain ⟨b2, ct2, o, hmm, hct, rfl, ho⟩ := hy
  have hmu1 : M1.mu ks.length = some (b, ct) := by rw [← hM1]; exact hE.mu
  obtain ⟨rfl, rfl⟩ := mu_eq hmu1 hmm
  refine ⟨some ⟨b, o, none⟩, ct - 0, ys, rfl, by omega, ?_, hsd, .inl ⟨b, o, rfl, ?_⟩, fun hx => by cases hx⟩
  ·exact (hc _ _ hrep).mono (Mem.le_bare hle1)
  ·by_cases hlo : 0 < ct
   ·rw [ho hlo, ← htk]
    have hbn : M1.w.heap[b]? = some (.cells arr ty (0, 0)) := by rw [hw1]; exact hb
    have hi : M1.imm b := by rw [← hM1]; exact .inr rfl
    have := Mem.row_take (es.length * sz) (Mem.row_of_cells (M := M2) (o := 0) hbn hi)
    simpa using this
   ·have : es.length = 0 := by omega
    have : ys = [] := by
     have hl := hrep.length
     cases ys with
     | nil => rfl
     | cons _ _ => simp at hl; omega
    subst this
    simp [flat, Mem.row_nil]
 refine ⟨M2, hw1, ?_, hb0, ⟨hT.1, fun i x' hx => ?_⟩, ?_, ?_⟩
 ·refine ⟨fun r x hx => ?_, fun b hb => hle1.imm b (hle0.imm b hb), fun b hb => (hle1.same b (hle0.imm b hb)).trans (hle0.same b hb), hle1.cok.trans hle0.cok⟩
  by_cases hr : r < ks.length
  ·exact (if_pos hr).trans (hle1.mu r x (hle0.mu r x hx))
  ·rw [hmu r (by omega)] at hx; cases hx
 ·obtain ⟨z, h1, h2⟩ := mkT_rel hv ts .leaf .leaf (fun i x' hx => by rw [Tr.get_leaf] at hx; cases hx) i x' hx
  exact ⟨(hT.2 i z h1).1, h2 M1 M2 _ hf ((hT.2 i z h1).2.mono hle1)⟩
 ·have ent : ∀ k e, (mkH ks bs' 0 .leaf).get k = some e → ∃ j p q, ks[j]? = some k ∧ bs[j]? = some p ∧ bs'[j]? = some q ∧ FzB ks.length sz es p q ∧ e = { ver := j, fz := q.1, blk := q.2 } ∧ (H.set key { ver := ks.length, fz := true, blk := .arr sz es x }).get k = some { ver := j, fz := p.1, blk := p.2 } := by
   intro k e he
   rcases mkH_get ks bs' 0 .leaf he with ⟨j, h1, q, h2, rfl⟩ | h
   ·obtain ⟨p, hp, hpq⟩ := hbb.get h2
    refine ⟨j, p, q, h1, hp, h2, hpq, by rw [Nat.zero_add], ?_⟩
    rw [Tr.get_set_ne (hne h1)]; exact at1 h1 hp
   ·rw [Tr.get_leaf] at h; cases h
  have lt : ∀ {j k : Nat}, ks[j]? = some k → j < ks.length := fun h => (List.getElem?_eq_some_iff.1 h).1
  exact {
   ent := fun k e he => by
    obtain ⟨j, p, q, h1, h2, h3, h4, rfl, h5⟩ := ent k e he
    obtain ⟨b', ct', hE'⟩ := hs1.ent k _ h5
    obtain ⟨e1, e2, e3⟩ := FzB.blk hf rfl h4 hE'.blk (fun x => (hE'.fz x).2)
    exact ⟨b', ct', (if_pos (lt h1)).trans hE'.mu, e2, hE'.base, fun x => ⟨(hE'.fz (by rw [← e1]; exact x)).1, e3 x⟩, fun x => hE'.own (by rw [← e1]; exact x)⟩
   inj := fun k e k' e' b1 c1 c2 g1 g2 hk m1 m2 => by
    obtain ⟨j, p, q, h1, h2, h3, h4, rfl, h5⟩ := ent k e g1
    obtain ⟨j', p', q', h1', h2', h3', h4', rfl, h5'⟩ := ent k' e' g2
    have m1 : M1.mu j = some (b1, c1) := (if_pos (lt h1)).symm.trans m1
    have m2 : M1.mu j' = some (b1, c2) := (if_pos (lt h1')).symm.trans m2
    exact hs1.inj k _ k' _ b1 c1 c2 h5 h5' hk m1 m2
   fresh := fun r x hx => by
    show r < ks.length
    by_cases hr : r < ks.length
    ·exact hr
    ·have : M2.mu r = none := if_neg hr
     rw [this] at hx; cases hx
   lt := hs1.lt
   old := hs1.old
   lo := hs1.lo
   new := hs1.new
   size := hs1.size }
 ·obtain ⟨rs, e, h1, h2⟩ := hm
  exact ⟨rs, e, h1, fun r hr => ⟨(h2 r hr).1, hle1.imm r (h2 r hr).2.1, (hle1.same r (h2 r hr).2.1).trans (h2 r hr).2.2⟩⟩
theorem Says.freezeLast {C : Cx} {p nt : Nat} {rd : Bool} {c : Code} {st : St} {ex : Ex} {ts : List Tmp} {ks : List Nat} {key sz nf : Nat} {vs vs' : List AV} {bs bs' : List (Bool × Blk)} {es : List AV} {x : Bool}
  (h : Says C p nt rd c st ex (mkSt ts (ks ++ [key]) nf vs (bs ++ [(false, .arr sz es x)]))) (hp : p ≤ ks.length) (hn : nodupN (ks ++ [key]) = true) (hlen : bs.length = ks.length) (hc : ClosedL es)
  (hv : All2 (FzS ks.length sz es) vs vs') (hbb : All2 (FzB ks.length sz es) bs bs') : Says C p nt rd c st ex (mkSt ts ks nf vs' bs') :=
 ⟨fun ro hro base im0 lo M0 a w hcok hg hlo hmu hn' => wpIn_mono (h.run ro hro base im0 lo M0 a w hcok hg hlo hmu hn') fun _ _ _ ⟨he, hn2⟩ => ⟨he, hn2.freezeLast (fun r hr => hmu r (Nat.le_trans hp hr)) hn hlen hc hv hbb⟩⟩
inductive WeakB : Bool × Blk → Bool × Blk → Prop
 | box {cs cs' : List AV} (h : All2 Weak cs cs') : WeakB (false, .box cs) (false, .box cs')
 | rfl {p : Bool × Blk} : WeakB p p
theorem WeakB.blk {p q : Bool × Blk} (h : WeakB p q) : q.1 = p.1 ∧ ∀ (M : Mem) (b ct : Nat), BlkIs M b ct p.2 → BlkIs M b ct q.2 := by
 cases h with
 | box h => exact ⟨Eq.refl _, fun M b ct ⟨arr, ty, h1, h2⟩ => ⟨arr, ty, h1, RepL.all2 (h.mono fun _ _ k y => k M y) h2⟩⟩
 | rfl => exact ⟨Eq.refl _, fun _ _ _ h => h⟩
theorem Says.weakG {C : Cx} {p nt : Nat} {rd : Bool} {c : Code} {st : St} {ex : Ex} {ts : List Tmp} {ks : List Nat} {nf : Nat} {vs vs' : List AV} {bs bs' : List (Bool × Blk)}
  (h : Says C p nt rd c st ex (mkSt ts ks nf vs bs)) (hn : nodupN ks = true) (hv : All2 Weak vs vs') (hbb : All2 WeakB bs bs') : Says C p nt rd c st ex (mkSt ts ks nf vs' bs') :=
 ⟨fun ro hro base im0 lo M0 a w hcok hg hlo hmu hn' => wpIn_mono (h.run ro hro base im0 lo M0 a w hcok hg hlo hmu hn') fun _ _ _ ⟨he, M, hw, hle, hb, hT, hs, hm⟩ => ⟨he, M, hw, hle, hb, ⟨hT.1, fun i x' hx => by
  obtain ⟨z, h1, h2⟩ := mkT_rel hv ts .leaf .leaf (fun i x' hx => by rw [Tr.get_leaf] at hx; cases hx) i x' hx
  exact ⟨(hT.2 i z h1).1, h2 _ _ (hT.2 i z h1).2⟩⟩, by
  have ent : ∀ k e, (mkH ks bs' 0 .leaf).get k = some e → ∃ j p q, ks[j]? = some k ∧ WeakB p q ∧ e = { ver := j, fz := q.1, blk := q.2 } ∧ (mkH ks bs 0 .leaf).get k = some { ver := j, fz := p.1, blk := p.2 } := by
   intro k e he
   rcases mkH_get ks bs' 0 .leaf he with ⟨j, h1, q, h2, rfl⟩ | h
   ·obtain ⟨p, hp, hpq⟩ := hbb.get h2
    have := mkH_at ks bs 0 .leaf hn h1 hp
    rw [Nat.zero_add] at this ⊢
    exact ⟨j, p, q, h1, hpq, rfl, this⟩
   ·rw [Tr.get_leaf] at h; cases h
  exact {
   ent := fun k e he => by
    obtain ⟨j, p, q, h1, h2, rfl, h3⟩ := ent k e he
    obtain ⟨b, ct, hE⟩ := hs.ent k _ h3
    obtain ⟨e1, e2⟩ := h2.blk
    exact ⟨b, ct, hE.mu, e2 _ _ _ hE.blk, hE.base, fun x => ⟨(hE.fz (by rw [← e1]; exact x)).1, e2 _ _ _ (hE.fz (by rw [← e1]; exact x)).2⟩, fun x => hE.own (by rw [← e1]; exact x)⟩
   inj := fun k e k' e' b1 c1 c2 g1 g2 hk m1 m2 => by
    obtain ⟨j, p, q, h1, h2, rfl, h5⟩ := ent k e g1
    obtain ⟨j', p', q', h1', h2', rfl, h5'⟩ := ent k' e' g2
    exact hs.inj k _ k' _ b1 c1 c2 h5 h5' hk m1 m2
   fresh := hs.fresh, lt := hs.lt, old := hs.old, lo := hs.lo, new := hs.new, size := hs.size }, hm⟩⟩
def blG (key sz : Nat) (ts : List Tmp) (ks : List Nat) (nf : Nat) (vs : AV → List AV) (bs : AV → List (Bool × Blk)) : List AV → St
 | [] => mkSt ts ks nf (vs nilS) (bs nilS)
 | a :: as => mkSt ts (ks ++ [key]) nf (vs (.sl key ks.length sz 0 (a :: as).length)) (bs (.sl key ks.length sz 0 (a :: as).length) ++ [(false, .arr sz (a :: as) false)])
theorem Says.blEndG {C : Cx} {p nt : Nat} {rd : Bool} {c : Code} {st : St} {ex : Ex} {ts : List Tmp} {ks : List Nat} {key sz nf : Nat} {vs : AV → List AV} {bs : AV → List (Bool × Blk)} {acc : List AV}
  (h : Says C p nt rd c st ex (blG key sz ts ks nf vs bs acc)) (hp : p ≤ ks.length) (hn : nodupN (ks ++ [key]) = true) (hlen : ∀ a, (bs a).length = ks.length) (hc : ClosedL acc)
  (hv : All2 (FzS ks.length sz acc) (vs (.sl key ks.length sz 0 acc.length)) (vs (.rsl sz acc false))) (hbb : All2 (FzB ks.length sz acc) (bs (.sl key ks.length sz 0 acc.length)) (bs (.rsl sz acc false)))
  (hv0 : All2 Weak (vs nilS) (vs (.rsl sz [] false))) (hb0 : All2 WeakB (bs nilS) (bs (.rsl sz [] false))) : Says C p nt rd c st ex (mkSt ts ks nf (vs (.rsl sz acc false)) (bs (.rsl sz acc false))) := by
 cases acc with
 | nil => exact h.weakG (nodupN_left hn) hv0 hb0
 | cons a as => exact h.freezeLast hp hn (hlen _) hc hv hbb
theorem LoopRun.pushes {α β : Type} {C : Cx} {p nt : Nat} {rd : Bool} {c : Code} (encB : β → AV) (g : Nat → α → List β) (hg : ∀ i x, (g i x).length ≤ 1) {key sz nf : Nat} {ts : List Tmp} {ks : List Nat} (vs : Nat → AV → List AV) (bs : AV → List (Bool × Blk))
  {ts2 : List Tmp} (vs2 : AV → List AV) {ex : Ex} (l : List α) (hx : ex ≠ .nrm) (hp : p ≤ ks.length) (hn : nodupN (ks ++ [key]) = true) (hlen : ∀ a, (bs a).length = ks.length) (hB : ∀ y, closed (encB y) = true)
  (hv : ∀ es n, n = es.length → All2 (FzS ks.length sz es) (vs2 (.sl key ks.length sz 0 n)) (vs2 (.rsl sz es false))) (hbb : ∀ es n, n = es.length → All2 (FzB ks.length sz es) (bs (.sl key ks.length sz 0 n)) (bs (.rsl sz es false)))
  (hv0 : All2 Weak (vs2 nilS) (vs2 (.rsl sz [] false))) (hb0 : All2 WeakB (bs nilS) (bs (.rsl sz [] false)))
  (rn : ∀ i x, l[i]? = some x → g i x = [] → Says C p nt rd c (mkSt ts ks nf (vs i nilS) (bs nilS)) .nrm (mkSt ts ks nf (vs (i + 1) nilS) (bs nilS)))
  (rm : ∀ i x rs, l[i]? = some x → g i x = [] → ClosedL rs → Says C p nt rd c (mkSt ts (ks ++ [key]) nf (vs i (.sl key ks.length sz 0 rs.length)) (bs (.sl key ks.length sz 0 rs.length) ++ [(false, .arr sz rs false)])) .nrm (mkSt ts (ks ++ [key]) nf (vs (i + 1) (.sl key ks.length sz 0 rs.length)) (bs (.sl key ks.length sz 0 rs.length) ++ [(false, .arr sz rs false)])))
  (ra : ∀ i x y, l[i]? = some x → g i x = [y] → Says C p nt rd c (mkSt ts ks nf (vs i nilS) (bs nilS)) .nrm (mkSt ts (ks ++ [key]) nf (vs (i + 1) (.sl key ks.length sz 0 1)) (bs (.sl key ks.length sz 0 1) ++ [(false, .arr sz [encB y] false)])))
  (rb : ∀ i x y rs, l[i]? = some x → g i x = [y] → ClosedL rs → rs.length ≤ i → Says C p nt rd c (mkSt ts (ks ++ [key]) nf (vs i (.sl key ks.length sz 0 rs.length)) (bs (.sl key ks.length sz 0 rs.length) ++ [(false, .arr sz rs false)])) .nrm
   (mkSt ts (ks ++ [key]) nf (vs (i + 1) (.sl key ks.length sz 0 (rs ++ [encB y]).length)) (bs (.sl key ks.length sz 0 (rs ++ [encB y]).length) ++ [(false, .arr sz (rs ++ [encB y]) false)])))
  (xa : Says C p nt rd c (mkSt ts ks nf (vs l.length nilS) (bs nilS)) ex (mkSt ts2 ks nf (vs2 nilS) (bs nilS)))
  (xb : ∀ rs, ClosedL rs → Says C p nt rd c (mkSt ts (ks ++ [key]) nf (vs l.length (.sl key ks.length sz 0 rs.length)) (bs (.sl key ks.length sz 0 rs.length) ++ [(false, .arr sz rs false)])) ex (mkSt ts2 (ks ++ [key]) nf (vs2 (.sl key ks.length sz 0 rs.length)) (bs (.sl key ks.length sz 0 rs.length) ++ [(false, .arr sz rs false)]))) :
  LoopRun C p nt rd c (mkSt ts ks nf (vs 0 nilS) (bs nilS)) ex (mkSt ts2 ks nf (vs2 (.rsl sz ((gath g 0 l).map encB) false)) (bs (.rsl sz ((gath g 0 l).map encB) false))) := by
 have cl : ∀ m : List β, ClosedL (m.map encB) := fun m => ClosedL.map hB
 refine LoopRun.gather g 1 hg (fun i acc => blG key sz ts ks nf (vs i) bs (acc.map encB)) ex (fun acc => mkSt ts2 ks nf (vs2 (.rsl sz (acc.map encB) false)) (bs (.rsl sz (acc.map encB) false))) l hx (fun i x acc hx hacc => ?_) (fun acc _ => ?_)
 ·have h1 := hg i x
  cases hgi : g i x with
  | nil =>
   rw [List.append_nil]
   cases acc with
   | nil => exact rn i x hx hgi
   | cons a as => exact rm i x ((a :: as).map encB) hx hgi (cl _)
  | cons y ys =>
   rw [hgi] at h1
   have : ys = [] := by cases ys with
    | nil => rfl
    | cons _ _ => simp at h1
   subst this
   cases acc with
   | nil => exact ra i x y hx hgi
   | cons a as =>
    have e : ((a :: as) ++ [y]).map encB = (a :: as).map encB ++ [encB y] := by simp
    rw [e]
    exact rb i x y ((a :: as).map encB) hx hgi (cl _) (by simpa using hacc)
 ·refine Says.blEndG (key := key) (vs := vs2) (bs := bs) ?_ hp hn hlen (cl acc) (hv _ _ rfl) (hbb _ _ rfl) hv0 hb0
  cases acc with
  | nil => exact xa
  | cons a as => exact xb ((a :: as).map encB) (cl _)
theorem allSz_map {α : Type} {f : α → AV} {sz : Nat} (h : ∀ x, (match cells? (f x) with | some cs => Nat.beq cs.length sz | none => false) = true) (l : List α) : allSz sz (l.map f) = true := by
 unfold allSz
 rw [List.all_eq_true]
 intro a ha
 obtain ⟨x, _, rfl⟩ := List.mem_map.1 ha
 exact h x
end Go.Vm

namespace Go.Vm
open Go.RowKit Go.ChangeShapes Go.WideShapes
section
variable {α : Type} {P : Program} {t : TypeId}
theorem okWide_array {W : World} {base : Nat} {v : Value} {n : Nat} {u : TypeId} (ht : P.underlying t = some (.array n u)) (h : Value.okWide P W .any base t v) : ∃ cs, v = .agg cs := by
 unfold Value.okWide at h
 rw [ht] at h
 cases v <;> simp_all
theorem ArgOk.arr {e : α → List AV} {n : Nat} {u : TypeId} (ht : P.underlying t = some (.array n u)) : ArgOk P t e (fun x => .agg (e x)) := fun w W base v x hv hr => by
 obtain ⟨cs, rfl⟩ := okWide_array ht hv
 unfold Rep
 exact ⟨cs.toList, by simp, hr⟩
end
end Go.Vm
