/- A small evaluator over abstract values: how its heap stands to the model's, and the steps that keep this. -/
import Derived.Test.YtliikgffjphhjaaGreatDoorVmEval
namespace Go.Vm
open Go.RowKit (Below)

def RepT (M : Mem) (nt : Nat) (T : Tr AV) (tmps : Array Value) : Prop :=
  tmps.size = nt ∧ ∀ i x, T.get i = some x → i < nt ∧ Rep M x (tmps.getD i undef)

def BlkIs (M : Mem) (b ct : Nat) : Blk → Prop
  | .box cs => ∃ arr ty, M.w.heap[b]? = some (.cells arr ty (0, 0)) ∧ RepL M cs arr.toList
  | .arr sz es ex => ∃ arr ty ys, M.w.heap[b]? = some (.cells arr ty (0, 0)) ∧ RepL M es ys ∧ Sized sz ys ∧ arr.size = ct * sz ∧ es.length ≤ ct ∧
      (ex = true → es.length = ct) ∧ arr.toList.take (es.length * sz) = flat ys
  | .map ks vs => ∃ es clock, M.w.heap[b]? = some (.map es clock) ∧ RepL M ks (es.toList.map (·.key)) ∧ RepL M vs (es.toList.map (·.val))
  | .siter s pos => M.w.heap[b]? = some (.stringIter s pos)
  | .loop fid _ nt T ps asg bd pend => ∃ l : Loop, M.w.heap[b]? = some (.loop l) ∧ M.cok fid asg ∧ M.cok fid bd ∧ l.params.toList = ps ∧ l.assign = asg ∧ l.body = bd ∧ RepT M nt T l.tmps ∧
      (match pend with
       | none => l.state = .ready ∧ l.pending = none
       | some none => l.state = .busy
       | some (some c) => l.state = .done ∧ l.pending = some c)

structure EntIs (M : Mem) (base : Nat) (e : Ent) (b ct : Nat) : Prop where
  mu : M.mu e.ver = some (b, ct)
  blk : BlkIs M b ct e.blk
  base : base ≤ b
  fz : e.fz = true → M.imm b ∧ BlkIs M.bare b ct e.blk
  own : e.fz = false → ¬ M.imm b

structure SimH (M : Mem) (base : Nat) (im0 : Nat → Prop) (nv : Nat) (H : Tr Ent) : Prop where
  ent : ∀ k e, H.get k = some e → ∃ b ct, EntIs M base e b ct
  inj : ∀ k e k' e' b ct ct', H.get k = some e → H.get k' = some e' → k ≠ k' → M.mu e.ver = some (b, ct) → M.mu e'.ver = some (b, ct') → False
  fresh : ∀ r x, M.mu r = some x → r < nv
  lt : ∀ b, M.imm b → b < M.w.heap.size
  old : ∀ b, im0 b → M.imm b
  lo : ∀ b, im0 b → b < base
  new : ∀ b, M.imm b → im0 b ∨ base ≤ b
  size : base ≤ M.w.heap.size

theorem RepT.mono {M M' : Mem} (h : M.le M') {nt : Nat} {T : Tr AV} {tmps : Array Value} (k : RepT M nt T tmps) : RepT M' nt T tmps :=
  ⟨k.1, fun i x hi => ⟨(k.2 i x hi).1, (k.2 i x hi).2.mono h⟩⟩

theorem BlkIs.mono {M M' : Mem} (h : M.le M') {b ct : Nat} {bl : Blk} (hb : M'.w.heap[b]? = M.w.heap[b]?) (k : BlkIs M b ct bl) : BlkIs M' b ct bl := by
  cases bl with
  | box cs => obtain ⟨a, t, e, r⟩ := k; exact ⟨a, t, hb.trans e, r.mono h⟩
  | arr sz es ex => obtain ⟨a, t, ys, e, r, rest⟩ := k; exact ⟨a, t, ys, hb.trans e, r.mono h, rest⟩
  | map ks vs => obtain ⟨a, t, e, r, s⟩ := k; exact ⟨a, t, hb.trans e, r.mono h, s.mono h⟩
  | siter s pos => exact hb.trans k
  | loop fid fb nt T ps asg bd pend => obtain ⟨l, e, c1, c2, a2, a3, a4, a5, a6⟩ := k; exact ⟨l, hb.trans e, h.cok.symm ▸ c1, h.cok.symm ▸ c2, a2, a3, a4, a5.mono h, a6⟩

theorem SimH.nv_le {M : Mem} {base : Nat} {im0 : Nat → Prop} {nv nv' : Nat} {H : Tr Ent} (h : SimH M base im0 nv H) (hn : nv ≤ nv') : SimH M base im0 nv' H :=
  { h with fresh := fun r x hr => Nat.lt_of_lt_of_le (h.fresh r x hr) hn }

/-- The world has grown by blocks of others, and nothing that is known has turned. -/
theorem SimH.other {M : Mem} {base : Nat} {im0 : Nat → Prop} {nv : Nat} {H : Tr Ent} (h : SimH M base im0 nv H) {w' : World} (hb : Below M.w.heap.size M.w w') :
    M.le { M with w := w' } ∧ SimH { M with w := w' } base im0 nv H := by
  have hle : M.le { M with w := w' } := Mem.mk3 (fun _ _ x => x) (fun _ x => x) (fun b x => hb.block b (h.lt b x))
  refine ⟨hle, ?_⟩
  have hlt : ∀ k e, H.get k = some e → ∀ b ct, EntIs M base e b ct → b < M.w.heap.size := by
    intro k e _ b ct he
    have : ∃ o, M.w.heap[b]? = some o := by
      have := he.blk
      cases hbl : e.blk with
      | box cs => rw [hbl] at this; obtain ⟨a, t, e, _⟩ := this; exact ⟨_, e⟩
      | arr sz es ex => rw [hbl] at this; obtain ⟨a, t, ys, e, _⟩ := this; exact ⟨_, e⟩
      | map ks vs => rw [hbl] at this; obtain ⟨a, t, e, _⟩ := this; exact ⟨_, e⟩
      | siter s pos => rw [hbl] at this; exact ⟨_, this⟩
      | loop => rw [hbl] at this; obtain ⟨l, e, _⟩ := this; exact ⟨_, e⟩
    obtain ⟨o, ho⟩ := this
    exact (Array.getElem?_eq_some_iff.1 ho).1
  exact {
    ent := fun k e he => by
      obtain ⟨b, ct, hE⟩ := h.ent k e he
      exact ⟨b, ct, hE.mu, hE.blk.mono hle (hb.block b (hlt k e he b ct hE)), hE.base, fun x => ⟨(hE.fz x).1, (hE.fz x).2.mono (Mem.le_bare hle) (hb.block b (hlt k e he b ct hE))⟩, hE.own⟩
    inj := h.inj
    fresh := h.fresh
    lt := fun b x => Nat.lt_of_lt_of_le (h.lt b x) hb.size
    old := h.old
    lo := h.lo
    new := h.new
    size := Nat.le_trans h.size hb.size }

theorem EntIs.lt {M : Mem} {base : Nat} {e : Ent} {b ct : Nat} (he : EntIs M base e b ct) : b < M.w.heap.size := by
  have : ∃ o, M.w.heap[b]? = some o := by
    have := he.blk
    cases hbl : e.blk with
    | box cs => rw [hbl] at this; obtain ⟨a, t, e, _⟩ := this; exact ⟨_, e⟩
    | arr sz es ex => rw [hbl] at this; obtain ⟨a, t, ys, e, _⟩ := this; exact ⟨_, e⟩
    | map ks vs => rw [hbl] at this; obtain ⟨a, t, e, _⟩ := this; exact ⟨_, e⟩
    | siter s pos => rw [hbl] at this; exact ⟨_, this⟩
    | loop => rw [hbl] at this; obtain ⟨l, e, _⟩ := this; exact ⟨_, e⟩
  obtain ⟨o, ho⟩ := this
  exact (Array.getElem?_eq_some_iff.1 ho).1

/-- What an operation has brought: a value, the heap, and what is known of memory now ('ver': the one version that may be new). -/
structure Post (M : Mem) (base : Nat) (im0 : Nat → Prop) (ver nv' : Nat) (r : AV) (H' : Tr Ent) (y : Value) (w' : World) : Prop where
  ex : ∃ M', M'.w = w' ∧ M.le M' ∧ (∀ q, q ≠ ver → M'.mu q = M.mu q) ∧ Rep M' r y ∧ SimH M' base im0 nv' H'
  below : Below base M.w w'

theorem Post.same {M : Mem} {base : Nat} {im0 : Nat → Prop} {nv ver nv' : Nat} {r : AV} {H : Tr Ent} {y : Value} (h : SimH M base im0 nv H) (hn : nv ≤ nv') (hr : Rep M r y) :
    Post M base im0 ver nv' r H y M.w :=
  ⟨⟨M, rfl, Mem.le_refl M, fun _ _ => rfl, hr, h.nv_le hn⟩, Below.refl _ _⟩

/-- A version that is not in use. -/
structure VerOk (M : Mem) (nv ver nv' : Nat) : Prop where
  free : M.mu ver = none
  le : nv ≤ nv'
  lt : ver < nv'

theorem SimH.verOk {M : Mem} {base : Nat} {im0 : Nat → Prop} {nv : Nat} {H : Tr Ent} (h : SimH M base im0 nv H) : VerOk M nv nv (nv + 1) :=
  ⟨by cases hm : M.mu nv with
    | none => rfl
    | some x => exact absurd (h.fresh nv x hm) (Nat.lt_irrefl _), by omega, by omega⟩

/-- A new block. -/
theorem SimH.alloc {M : Mem} {base : Nat} {im0 : Nat → Prop} {nv ver nv' : Nat} {H : Tr Ent} (h : SimH M base im0 nv H) (hv : VerOk M nv ver nv') (o : Obj) (key ct : Nat) (bl : Blk)
    (hbl : ∀ M' : Mem, M.le M' → M'.w.heap[M.w.heap.size]? = some o → BlkIs M' M.w.heap.size ct bl) :
    ∃ M', M'.w = M.w.alloc o ∧ M.le M' ∧ (∀ q, q ≠ ver → M'.mu q = M.mu q) ∧ M'.mu ver = some (M.w.heap.size, ct) ∧ SimH M' base im0 nv' (H.set key { ver := ver, fz := false, blk := bl }) := by
  let M' : Mem := { M with mu := fun r => if r = ver then some (M.w.heap.size, ct) else M.mu r, w := M.w.alloc o }
  have hold : ∀ b, b < M.w.heap.size → M'.w.heap[b]? = M.w.heap[b]? := fun b hb => Below.heap_alloc M.w o b hb
  have hle : M.le M' := Mem.mk3 (fun r x hr => by
      show (if r = ver then _ else _) = _
      rw [if_neg (fun e => by rw [e, hv.free] at hr; cases hr)]; exact hr) (fun _ x => x) (fun b hb => hold b (h.lt b hb))
  have hnew : M'.w.heap[M.w.heap.size]? = some o := by show (M.w.heap.push o)[M.w.heap.size]? = _; simp
  have hver : M'.mu ver = some (M.w.heap.size, ct) := by show (if ver = ver then _ else _) = _; rw [if_pos rfl]
  refine ⟨M', rfl, hle, fun q hq => if_neg hq, hver, ?_⟩
  exact {
    ent := fun k e he => by
      rcases Tr.get_set he with ⟨rfl, rfl⟩ | ⟨hk, he⟩
      · exact ⟨M.w.heap.size, ct, hver, hbl M' hle hnew, h.size, fun x => (by cases x), fun _ hi => Nat.lt_irrefl _ (h.lt _ hi)⟩
      · obtain ⟨b, ct', hE⟩ := h.ent k e he
        exact ⟨b, ct', hle.mu _ _ hE.mu, hE.blk.mono hle (hold b hE.lt), hE.base, fun x => ⟨(hE.fz x).1, (hE.fz x).2.mono (Mem.le_bare hle) (hold b hE.lt)⟩, hE.own⟩
    inj := fun k e k' e' b ct1 ct2 he he' hk h1 h2 => by
      rcases Tr.get_set he with ⟨rfl, rfl⟩ | ⟨hk1, ge⟩ <;> rcases Tr.get_set he' with ⟨rfl, rfl⟩ | ⟨hk2, ge'⟩
      · exact hk rfl
      · obtain ⟨b', ct', hE⟩ := h.ent k' e' ge'
        rw [hver] at h1; rw [hle.mu _ _ hE.mu] at h2
        have := hE.lt; simp only [Option.some.injEq, Prod.mk.injEq] at h1 h2; omega
      · obtain ⟨b', ct', hE⟩ := h.ent k e ge
        rw [hver] at h2; rw [hle.mu _ _ hE.mu] at h1
        have := hE.lt; simp only [Option.some.injEq, Prod.mk.injEq] at h1 h2; omega
      · obtain ⟨b1, c1, hE1⟩ := h.ent k e ge
        obtain ⟨b2, c2, hE2⟩ := h.ent k' e' ge'
        rw [hle.mu _ _ hE1.mu] at h1; rw [hle.mu _ _ hE2.mu] at h2
        simp only [Option.some.injEq, Prod.mk.injEq] at h1 h2
        obtain ⟨rfl, rfl⟩ := h1; obtain ⟨rfl, rfl⟩ := h2
        exact h.inj k e k' e' _ _ _ ge ge' hk hE1.mu hE2.mu
    fresh := fun r x hr => by
      have hr' : (if r = ver then some (M.w.heap.size, ct) else M.mu r) = some x := hr
      have := hv.le
      have := hv.lt
      by_cases hrv : r = ver
      · omega
      · rw [if_neg hrv] at hr'; have := h.fresh r x hr'; omega
    lt := fun b hb => by have := h.lt b hb; show b < (M.w.alloc o).heap.size; simp; omega
    old := h.old
    lo := h.lo
    new := h.new
    size := by have := h.size; show base ≤ (M.w.alloc o).heap.size; simp; omega }

/-- A block of one's own is written. -/
theorem SimH.write {M : Mem} {base : Nat} {im0 : Nat → Prop} {nv : Nat} {H : Tr Ent} (h : SimH M base im0 nv H) {k : Nat} {e : Ent} {b ct : Nat} (he : H.get k = some e) (hE : EntIs M base e b ct) (hf : e.fz = false)
    {w' : World} (hw : ∀ b', b' ≠ b → w'.heap[b']? = M.w.heap[b']?) (hos : w'.os = M.w.os) (htape : w'.tape = M.w.tape) (hout : w'.output = M.w.output) (hsz : w'.heap.size = M.w.heap.size) (bl : Blk)
    (hbl : M.le { M with w := w' } → BlkIs { M with w := w' } b ct bl) :
    M.le { M with w := w' } ∧ SimH { M with w := w' } base im0 nv (H.set k { ver := e.ver, fz := false, blk := bl }) ∧ Below base M.w w' := by
  have hle : M.le { M with w := w' } := Mem.mk3 (fun _ _ x => x) (fun _ x => x) (fun b' x => hw b' (fun hb => hE.own hf (hb ▸ x)))
  refine ⟨hle, ?_, ⟨hos, htape, hout, Nat.le_of_eq hsz.symm, fun b' hb => hw b' (by have := hE.base; omega)⟩⟩
  have inj' : ∀ k' e', H.get k' = some e' → k' ≠ k → ∀ b' ct', EntIs M base e' b' ct' → b' ≠ b := by
    intro k' e' he' hk b' ct' hE' hb
    subst hb
    exact h.inj k e k' e' _ _ _ he he' (Ne.symm hk) hE.mu hE'.mu
  exact {
    ent := fun k' e' he' => by
      rcases Tr.get_set he' with ⟨rfl, rfl⟩ | ⟨hk, he'⟩
      · exact ⟨b, ct, hE.mu, hbl hle, hE.base, fun x => (by cases x), fun _ => hE.own hf⟩
      · obtain ⟨b', ct', hE'⟩ := h.ent k' e' he'
        exact ⟨b', ct', hE'.mu, hE'.blk.mono hle (hw b' (inj' k' e' he' hk b' ct' hE')), hE'.base, fun x => ⟨(hE'.fz x).1, (hE'.fz x).2.mono (Mem.le_bare hle) (hw b' (inj' k' e' he' hk b' ct' hE'))⟩, hE'.own⟩
    inj := fun k1 e1 k2 e2 b' c1 c2 h1 h2 hk m1 m2 => by
      rcases Tr.get_set h1 with ⟨rfl, rfl⟩ | ⟨hk1, g1⟩ <;> rcases Tr.get_set h2 with ⟨rfl, rfl⟩ | ⟨hk2, g2⟩
      · exact hk rfl
      · exact h.inj _ _ _ _ _ _ _ he g2 (Ne.symm hk2) m1 m2
      · exact h.inj _ _ _ _ _ _ _ he g1 (Ne.symm hk1) m2 m1
      · exact h.inj _ _ _ _ _ _ _ g1 g2 hk m1 m2
    fresh := h.fresh
    lt := fun b' x => by have := h.lt b' x; show b' < w'.heap.size; omega
    old := h.old
    lo := h.lo
    new := h.new
    size := by have := h.size; show base ≤ w'.heap.size; omega }

/-- A block of one's own is never written again. -/
theorem SimH.freeze {M : Mem} {base : Nat} {im0 : Nat → Prop} {nv : Nat} {H : Tr Ent} (h : SimH M base im0 nv H) {k : Nat} {e : Ent} {b ct : Nat} (he : H.get k = some e) (hE : EntIs M base e b ct) (bl : Blk)
    (hbl : BlkIs M.bare b ct bl) :
    M.le { M with imm := fun x => M.imm x ∨ x = b } ∧ SimH { M with imm := fun x => M.imm x ∨ x = b } base im0 nv (H.set k { ver := e.ver, fz := true, blk := bl }) := by
  have hle : M.le { M with imm := fun x => M.imm x ∨ x = b } := Mem.mk3 (fun _ _ x => x) (fun _ x => .inl x) (fun _ _ => rfl)
  refine ⟨hle, ?_⟩
  exact {
    ent := fun k' e' he' => by
      rcases Tr.get_set he' with ⟨rfl, rfl⟩ | ⟨hk, he'⟩
      · exact ⟨b, ct, hE.mu, (hbl.mono (Mem.bare_le M) rfl).mono hle rfl, hE.base, fun _ => ⟨.inr rfl, hbl.mono (Mem.le_bare hle) rfl⟩, fun x => (by cases x)⟩
      · obtain ⟨b', ct', hE'⟩ := h.ent k' e' he'
        refine ⟨b', ct', hE'.mu, hE'.blk.mono hle rfl, hE'.base, fun x => ⟨.inl (hE'.fz x).1, (hE'.fz x).2.mono (Mem.le_bare hle) rfl⟩, fun x hi => ?_⟩
        rcases hi with hi | rfl
        · exact hE'.own x hi
        · exact h.inj k e k' e' _ _ _ he he' (Ne.symm hk) hE.mu hE'.mu
    inj := fun k1 e1 k2 e2 b' c1 c2 h1 h2 hk m1 m2 => by
      rcases Tr.get_set h1 with ⟨rfl, rfl⟩ | ⟨hk1, g1⟩ <;> rcases Tr.get_set h2 with ⟨rfl, rfl⟩ | ⟨hk2, g2⟩
      · exact hk rfl
      · exact h.inj _ _ _ _ _ _ _ he g2 (Ne.symm hk2) m1 m2
      · exact h.inj _ _ _ _ _ _ _ he g1 (Ne.symm hk1) m2 m1
      · exact h.inj _ _ _ _ _ _ _ g1 g2 hk m1 m2
    fresh := h.fresh
    lt := fun b' x => by rcases x with x | rfl; exact h.lt b' x; exact hE.lt
    old := fun b' x => .inl (h.old b' x)
    lo := h.lo
    new := fun b' x => by rcases x with x | rfl; exact h.new b' x; exact .inr hE.base
    size := h.size }

/-- What is known of a block is given up. -/
theorem SimH.del {M : Mem} {base : Nat} {im0 : Nat → Prop} {nv : Nat} {H : Tr Ent} (h : SimH M base im0 nv H) (k : Nat) : SimH M base im0 nv (H.del k) :=
  { h with
    ent := fun k' e he => h.ent k' e (Tr.get_del he).2
    inj := fun k1 e1 k2 e2 b c1 c2 h1 h2 => h.inj k1 e1 k2 e2 b c1 c2 (Tr.get_del h1).2 (Tr.get_del h2).2 }

/-- A block is known under a new place and a new version (the old place has been given up). -/
theorem SimH.rename {M : Mem} {base : Nat} {im0 : Nat → Prop} {nv ver nv' : Nat} {H : Tr Ent} (h : SimH M base im0 nv H) (hv : VerOk M nv ver nv') {key : Nat} {b ct : Nat} {bl : Blk}
    (hno : ∀ k e ct', H.get k = some e → k ≠ key → M.mu e.ver = some (b, ct') → False) (hbl : BlkIs M b ct bl) (hb : base ≤ b) (hown : ¬ M.imm b) :
    ∃ M', M'.w = M.w ∧ M.le M' ∧ (∀ q, q ≠ ver → M'.mu q = M.mu q) ∧ M'.mu ver = some (b, ct) ∧ SimH M' base im0 nv' (H.set key { ver := ver, fz := false, blk := bl }) := by
  let M' : Mem := { M with mu := fun r => if r = ver then some (b, ct) else M.mu r }
  have hle : M.le M' := Mem.mk3 (fun r x hr => by
      show (if r = ver then _ else _) = _
      rw [if_neg (fun e => by rw [e, hv.free] at hr; cases hr)]; exact hr) (fun _ x => x) (fun _ _ => rfl)
  have hver : M'.mu ver = some (b, ct) := by show (if ver = ver then _ else _) = _; rw [if_pos rfl]
  refine ⟨M', rfl, hle, fun q hq => if_neg hq, hver, ?_⟩
  exact {
    ent := fun k e he => by
      rcases Tr.get_set he with ⟨rfl, rfl⟩ | ⟨hk, he⟩
      · exact ⟨b, ct, hver, hbl.mono hle rfl, hb, fun x => (by cases x), fun _ => hown⟩
      · obtain ⟨b', ct', hE⟩ := h.ent k e he
        exact ⟨b', ct', hle.mu _ _ hE.mu, hE.blk.mono hle rfl, hE.base, fun x => ⟨(hE.fz x).1, (hE.fz x).2.mono (Mem.le_bare hle) rfl⟩, hE.own⟩
    inj := fun k e k' e' b' c1 c2 he he' hk h1 h2 => by
      rcases Tr.get_set he with ⟨rfl, rfl⟩ | ⟨hk1, ge⟩ <;> rcases Tr.get_set he' with ⟨rfl, rfl⟩ | ⟨hk2, ge'⟩
      · exact hk rfl
      · obtain ⟨b2, c2', hE⟩ := h.ent k' e' ge'
        rw [hver] at h1; rw [hle.mu _ _ hE.mu] at h2
        simp only [Option.some.injEq, Prod.mk.injEq] at h1 h2
        obtain ⟨rfl, rfl⟩ := h1; obtain ⟨rfl, rfl⟩ := h2
        exact hno k' e' _ ge' hk2 hE.mu
      · obtain ⟨b2, c2', hE⟩ := h.ent k e ge
        rw [hver] at h2; rw [hle.mu _ _ hE.mu] at h1
        simp only [Option.some.injEq, Prod.mk.injEq] at h1 h2
        obtain ⟨rfl, rfl⟩ := h1; obtain ⟨rfl, rfl⟩ := h2
        exact hno k e _ ge hk1 hE.mu
      · obtain ⟨b1, c1', hE1⟩ := h.ent k e ge
        obtain ⟨b2, c2', hE2⟩ := h.ent k' e' ge'
        rw [hle.mu _ _ hE1.mu] at h1; rw [hle.mu _ _ hE2.mu] at h2
        simp only [Option.some.injEq, Prod.mk.injEq] at h1 h2
        obtain ⟨rfl, rfl⟩ := h1; obtain ⟨rfl, rfl⟩ := h2
        exact h.inj k e k' e' _ _ _ ge ge' hk hE1.mu hE2.mu
    fresh := fun r x hr => by
      have hr' : (if r = ver then some (b, ct) else M.mu r) = some x := hr
      have := hv.le
      have := hv.lt
      by_cases hrv : r = ver
      · omega
      · rw [if_neg hrv] at hr'; have := h.fresh r x hr'; omega
    lt := h.lt
    old := h.old
    lo := h.lo
    new := h.new
    size := h.size }

theorem live_some {H : Tr Ent} {k r : Nat} {e : Ent} (h : live H k r = some e) : H.get k = some e ∧ e.ver = r := by
  unfold live at h
  cases hk : H.get k with
  | none => simp [hk] at h
  | some e' =>
    simp only [hk] at h
    cases hv : Nat.beq e'.ver r with
    | false => simp [hv] at h
    | true => simp only [hv, cond_true, Option.some.injEq] at h; subst h; exact ⟨rfl, Nat.eq_of_beq_eq_true hv⟩

end Go.Vm
