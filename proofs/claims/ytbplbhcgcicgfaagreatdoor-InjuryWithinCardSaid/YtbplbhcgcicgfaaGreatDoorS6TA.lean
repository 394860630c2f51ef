/- Longest, above, worth. -/
import Derived.Test.YtbplbhcgcicgfaaGreatDoorS6T3
namespace Go.Vm.S6
open Go.Proofs Go.RowKit
theorem specSer {l : List Int} (h : Nat.ble l.length lim = true) : seriesG [slA intC 1 l] = some (intA (seriesM l)) := by
  have h1 := sp1_at (A := listC intC 1) (F := fun l => bif Nat.ble l.length lim then some (intA (seriesM l)) else none) l
  rw [h] at h1; exact h1
/-! ### The longest run -/
theorem range_get {n i x : Nat} (h : (List.range n)[i]? = some x) : x = i ∧ i < n := by
  have hi := lt_len h
  rw [List.length_range] at hi
  rw [List.getElem?_range hi, Option.some.injEq] at h
  exact ⟨h.symm, hi⟩
/-! ### The reference's longest run -/
/-! ### The program's worth of a window -/
theorem specWorth {s n : Int} (h : worOk s n = true) : worthG [intA s, intA n] = some (p2A (worthM s n)) := by
  have h1 := sp2_at (A := intC) (B := intC) (F := fun s n => bif worOk s n then some (p2A (worthM s n)) else none) s n
  rw [h] at h1; exact h1
def T4 : Specs := T3
theorem T4_ok : Ok T4 := T3_ok
end Go.Vm.S6

namespace Go.Vm.S6
open Go.Proofs Go.RowKit
set_option maxRecDepth 100000 in
theorem r108 (es : List AV) (k m a : Int) (i n f j : Nat) : roundD (CS T4) 60 0 108 0 37 37 false (loopOf (CS T4) 108 0) [0, 1, 5, 6, 7, 14, 15] [5] [0, 1, 5, 6, 7, 14, 15] [5] [1, 5, 6, 7] [5] [.rsl 1 es false, intA k, .ptr 5 0 0, intA a, intA (Int.ofNat f), intA (Int.ofNat n), intA (Int.ofNat i)] [(false, .box [intA 0, intA 0])] [.br [.ar (intA (Int.ofNat j)), .chk [], .sp [.rsl 1 ((es.drop i).take (j - i)) false] (intA m)] []] =
    (bif decide (Int.ofNat i < Int.ofNat n) then (.need ((abin (CS T4) BinOp.add 3 (Operand.tmp 20) (Operand.tmp 21) (AV.v (.int .i64 (Int.ofNat i))) (AV.v (.int .i64 k))) = (some (AV.v (.int .i64 (Int.ofNat j))))) (.need (i ≤ j ∧ j ≤ es.length) (.need (([.rsl 1 (List.take (j - i) (List.drop i es)) false] : List AV) = ([.rsl 1 (List.take (j - i) (List.drop i es)) false] : List AV) ∧ (Cx.spec (CS T4) 161 ([.rsl 1 (List.take (j - i) (List.drop i es)) false] : List AV)) = (some (AV.v (.int .i64 m)))) (bif decide (m > a) then (.need (EntClosed [(false, .box [intA 0, intA 0])]) (.done (some ((.nrm, [.rsl 1 es false, intA k, .ptr 5 0 0, intA m, intA (Int.ofNat i), intA (Int.ofNat n), intA (IntKind.i64.wrap (Int.ofNat i + 1))], [(false, .box [intA 0, intA 0])]))))) else (.need (EntClosed [(false, .box [intA 0, intA 0])]) (.done (some ((.nrm, [.rsl 1 es false, intA k, .ptr 5 0 0, intA a, intA (Int.ofNat f), intA (Int.ofNat n), intA (IntKind.i64.wrap (Int.ofNat i + 1))], [(false, .box [intA 0, intA 0])]))))))))) else (.need (EntClosed [(false, .box [intA 0, intA 0])]) (.done (some (((.exit 0), [intA k, .ptr 5 0 0, intA a, intA (Int.ofNat f)], [(false, .box [intA 0, intA 0])])))))) := by kernel_rfl
set_option maxRecDepth 100000 in
theorem t108 (es : List AV) (k n a b : Int) : evTreeD (CS T4) 60 108 [.rsl 1 es false, intA k] [.ar (intA (n - 1)), .ar (intA n), .loop 0 [0, 1, 5, 6, 7, 14, 15] [5] [1, 5, 6, 7] [5] (.exit 0) [intA k, .ptr 5 0 0, intA a, intA b] [(false, .box [intA 0, intA 0])]] =
    (.need ((abin (CS T4) BinOp.sub 3 (Operand.tmp 11) (Operand.tmp 12) (AV.v (.int .i64 (Int.ofNat es.length))) (AV.v (.int .i64 k))) = (some (AV.v (.int .i64 (n - 1))))) (.need ((abin (CS T4) BinOp.add 3 (Operand.tmp 13) (Operand.const (Value.int IntKind.i64 1)) (AV.v (.int .i64 (n - 1))) (AV.v (.int .i64 1))) = (some (AV.v (.int .i64 n)))) (.need (EntClosed [(false, .box [intA 0, intA 0])] ∧ EntClosed [(false, .box [intA 0, intA 0])] ∧ Says (CS T4) 0 37 false (.loop (loopOf (CS T4) 108 0)) (mkSt [0, 1, 5, 6, 7, 14, 15] [5] 37 [.rsl 1 es false, intA k, .ptr 5 0 0, intA (-16385), intA 0, intA n, intA 0] [(false, .box [intA 0, intA 0])]) (.exit 0) (mkSt [1, 5, 6, 7] [5] 37 [intA k, .ptr 5 0 0, intA a, intA b] [(false, .box [intA 0, intA 0])])) (.done (some (.tup [intA a, .agg [intA b, intA (IntKind.i64.wrap (b + k))]])))))) := by kernel_rfl
theorem add_ok (S : Specs) (x y : Operand) (a b : Int) : abin (CS S) .add 3 x y (intA a) (intA b) = some (intA (IntKind.i64.wrap (a + b))) := rfl
theorem sub_ok (S : Specs) (x y : Operand) (a b : Int) : abin (CS S) .sub 3 x y (intA a) (intA b) = some (intA (IntKind.i64.wrap (a - b))) := rfl
theorem add_nat {a b : Nat} (h : a + b < two63) : IntKind.i64.wrap (Int.ofNat a + Int.ofNat b) = Int.ofNat (a + b) := by
  have : Int.ofNat a + Int.ofNat b = Int.ofNat (a + b) := rfl
  rw [this]; exact wrap_in (by simp only [Int.ofNat_eq_natCast]; omega) (by unfold two63 at h; simp only [Int.ofNat_eq_natCast]; omega)
theorem specMin {l : List Int} (h : (Nat.ble l.length lim && !l.isEmpty) = true) : minG [slA intC 1 l] = some (intA (minM l)) := by
  have h1 := sp1_at (A := intsC) (F := fun l => bif Nat.ble l.length lim && !l.isEmpty then some (intA (minM l)) else none) l
  rw [h] at h1; exact h1
/-! ### The program's held level -/
def heldOk (l : List Int) (k : Int) : Bool := seriesM l == 0 && (decide (1 ≤ k) && decide (k ≤ Int.ofNat l.length))
theorem heldZ {l : List Int} {k : Int} (h : heldOk l k = true) : Ser l ∧ ∃ n : Nat, k = Int.ofNat n ∧ 1 ≤ n ∧ n ≤ l.length := by
  unfold heldOk at h
  simp only [Bool.and_eq_true, beq_iff_eq, decide_eq_true_eq, seriesZ] at h
  cases k with
  | negSucc k => exact absurd h.2.1 (by omega)
  | ofNat k => exact ⟨h.1, k, rfl, by have := h.2.1; simp only [Int.ofNat_eq_natCast] at this; omega, by have := h.2.2; simp only [Int.ofNat_eq_natCast] at this; omega⟩
def hpS (l : List Int) (n : Nat) (st : Int × Int) (f : Nat) : Int × Int := bif decide (minW l f n > st.1) then (minW l f n, Int.ofNat f) else st
theorem heldP_eq (l : List Int) (n : Nat) : heldP l n = (List.range (l.length - n + 1)).foldl (hpS l n) (-16385, 0) := rfl
def hldM (l : List Int) (k : Int) : AV := .tup [intA (heldP l (natOf k)).1, p2A ((heldP l (natOf k)).2, (heldP l (natOf k)).2 + k)]
def hldG : List AV → Option AV := sp2 intsC intC fun l k => bif heldOk l k then some (hldM l k) else none
theorem foldl_P {α β : Type} (P : β → Prop) (g : β → α → β) : ∀ (l : List α) (s : β), P s → (∀ s x, x ∈ l → P s → P (g s x)) → P (l.foldl g s)
  | [], _, h, _ => h
  | x :: r, s, h, hs => foldl_P P g r (g s x) (hs s x (by simp) h) fun s y hy => hs s y (by simp [hy])
theorem goL_nat {σ τ : Type} (f : σ → Nat → σ) (fin : σ → τ) (n : Nat) (s : σ) : goL (fun _ x s => (.inl (f s x) : σ ⊕ τ)) fin 0 (List.range n) s = fin ((List.range n).foldl f s) := goL_fold (fun _ s x => f s x) fin _ _ _ (fun _ _ _ _ => rfl)
theorem h108 : Holds 108 hldG := holds2 fun l k r hr => by
  cases hb : heldOk l k with
  | false => simp [hb] at hr
  | true =>
    simp only [hb, cond_true, Option.some.injEq] at hr; subst hr
    obtain ⟨hser, n, rfl, hn⟩ := heldZ hb
    have hl := hser.two
    have hl2 := hser.2.1
    have e := e_len intA l
    have h := LoopRun.list (C := CS T4) (p := 0) (nt := 37) (rd := false) (c := loopOf (CS T4) 108 0) (step := fun _ f s => (.inl (hpS l n s f) : (Int × Int) ⊕ (Int × Int))) (fin := id)
      (enc := fun i s => mkSt [0, 1, 5, 6, 7, 14, 15] [5] 37 [.rsl 1 (l.map intA) false, intA (Int.ofNat n), .ptr 5 0 0, intA s.1, intA s.2, intA (Int.ofNat (l.length - n + 1)), intA (Int.ofNat i)] [(false, .box [intA 0, intA 0])])
      (ex := fun _ => .exit 0) (out := fun s => mkSt [1, 5, 6, 7] [5] 37 [intA (Int.ofNat n), .ptr 5 0 0, intA s.1, intA s.2] [(false, .box [intA 0, intA 0])]) (l := List.range (l.length - n + 1)) (fun _ s => ∃ q : Nat, s.2 = Int.ofNat q)
      (fun i f s hx hs => by
        obtain ⟨rfl, hi⟩ := range_get hx
        obtain ⟨a, b⟩ := s
        obtain ⟨q, rfl⟩ := hs
        have hr := r108 (l.map intA) (Int.ofNat n) (minW l f n) a f (l.length - n + 1) q (f + n)
        have ew : ((l.map intA).drop f).take (f + n - f) = ((l.drop f).take n).map intA := by rw [show f + n - f = n by omega, List.map_take, List.map_drop]
        have hsp : (Nat.ble ((l.drop f).take n).length lim && !((l.drop f).take n).isEmpty) = true := by
          have : ((l.drop f).take n).length = n := by simp; omega
          have h2 : ((l.drop f).take n).isEmpty = false := by
            cases hd : (l.drop f).take n with
            | nil => rw [hd] at this; simp at this; omega
            | cons => rfl
          rw [this, h2]
          simp; unfold lim; omega
        rw [lt_of hi, wrap_ix hi (by omega), ew] at hr
        unfold hpS
        cases hg : decide (minW l f n > a) with
        | true =>
          rw [hg] at hr
          refine ⟨T4_ok.rndN hr ⟨?_, ⟨by omega, by simp; omega⟩, ⟨rfl, specMin hsp⟩, trivial, rfl⟩, f, rfl⟩
          rw [show (AV.v (.int .i64 (Int.ofNat (f + n)))) = intA (IntKind.i64.wrap (Int.ofNat f + Int.ofNat n)) by rw [add_nat (by omega)]]
          exact add_ok ..
        | false =>
          rw [hg] at hr
          refine ⟨T4_ok.rndN hr ⟨?_, ⟨by omega, by simp; omega⟩, ⟨rfl, specMin hsp⟩, trivial, rfl⟩, q, rfl⟩
          rw [show (AV.v (.int .i64 (Int.ofNat (f + n)))) = intA (IntKind.i64.wrap (Int.ofNat f + Int.ofNat n)) by rw [add_nat (by omega)]]
          exact add_ok ..)
      (fun s hs => by
        obtain ⟨a, b⟩ := s
        obtain ⟨q, rfl⟩ := hs
        exact ⟨T4_ok.rndX (r108 (l.map intA) (Int.ofNat n) 0 a (List.range (l.length - n + 1)).length (l.length - n + 1) q 0) (by rw [List.length_range, lt_self]; exact ⟨trivial, rfl⟩), by simp⟩)
      (List.range (l.length - n + 1)) [] (-16385, 0) rfl ⟨0, rfl⟩
    rw [show ([] : List Nat).length = 0 from rfl, goL_nat (hpS l n) id] at h
    have hq : ∃ q : Nat, (heldP l n).2 = Int.ofNat q ∧ q ≤ l.length := by
      rw [heldP_eq]
      refine foldl_P (fun s : Int × Int => ∃ q : Nat, s.2 = Int.ofNat q ∧ q ≤ l.length) (hpS l n) _ _ ⟨0, rfl, by omega⟩ (fun s f hf hs => ?_)
      rw [List.mem_range] at hf
      unfold hpS
      cases decide (minW l f n > s.1) with
      | true => exact ⟨f, rfl, by omega⟩
      | false => exact hs
    obtain ⟨q, hq1, hq2⟩ := hq
    refine T4_ok.tr (t108 (l.map intA) (Int.ofNat n) (Int.ofNat (l.length - n + 1)) (heldP l n).1 (heldP l n).2) ⟨?_, ?_, ⟨trivial, trivial, h.says⟩, ?_⟩
    · rw [e, show (AV.v (.int .i64 (Int.ofNat (l.length - n + 1) - 1))) = intA (IntKind.i64.wrap (Int.ofNat l.length - Int.ofNat n)) by
        rw [sub_nat hn.2 (by omega)]
        show AV.v (.int .i64 _) = AV.v (.int .i64 _)
        congr 2; simp only [Int.ofNat_eq_natCast]; omega]
      exact sub_ok ..
    · rw [show (AV.v (.int .i64 (Int.ofNat (l.length - n + 1)))) = intA (IntKind.i64.wrap (Int.ofNat (l.length - n + 1) - 1 + 1)) by
        rw [wrap_in (by simp only [Int.ofNat_eq_natCast]; omega) (by simp only [Int.ofNat_eq_natCast]; omega)]
        show AV.v (.int .i64 _) = AV.v (.int .i64 _)
        congr 2; omega]
      exact add_ok ..
    · have hM : hldM l (Int.ofNat n) = AV.tup [intA (heldP l n).1, p2A (Int.ofNat q, Int.ofNat (q + n))] := by
        show AV.tup [intA (heldP l n).1, p2A ((heldP l n).2, (heldP l n).2 + Int.ofNat n)] = _
        rw [hq1]; rfl
      rw [hM, hq1, add_nat (by unfold two63; omega)]
      rfl
/-! ### The reference's -/
def T5 : Specs := (T4.set 108 hldG)
theorem T5_ok : Ok T5 := (T4_ok.set h108)
end Go.Vm.S6
