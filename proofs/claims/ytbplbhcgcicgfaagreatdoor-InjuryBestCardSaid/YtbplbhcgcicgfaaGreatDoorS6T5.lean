/- Held levels. -/
import Derived.Test.YtbplbhcgcicgfaaGreatDoorS6T4
namespace Go.Vm.S6
open Go.Proofs Go.RowKit
set_option maxRecDepth 100000 in
theorem r108 (es : List AV) (k m a : Int) (i n f j : Nat) : roundD (CS T4) 60 0 108 0 37 37 false (loopOf (CS T4) 108 0) [0, 1, 5, 6, 7, 14, 15] [5] [0, 1, 5, 6, 7, 14, 15] [5] [1, 5, 6, 7] [5] [.rsl 1 es false, intA k, .ptr 5 0 0, intA a, intA (Int.ofNat f), intA (Int.ofNat n), intA (Int.ofNat i)] [(false, .box [intA 0, intA 0])] [.br [.ar (intA (Int.ofNat j)), .chk [], .sp [.rsl 1 ((es.drop i).take (j - i)) false] (intA m)] []] =
    (bif decide (Int.ofNat i < Int.ofNat n) then (.need ((abin (CS T4) BinOp.add 3 (Operand.tmp 20) (Operand.tmp 21) (AV.v (.int .i64 (Int.ofNat i))) (AV.v (.int .i64 k))) = (some (AV.v (.int .i64 (Int.ofNat j))))) (.need (i ≤ j ∧ j ≤ es.length) (.need (([.rsl 1 (List.take (j - i) (List.drop i es)) false] : List AV) = ([.rsl 1 (List.take (j - i) (List.drop i es)) false] : List AV) ∧ (Cx.spec (CS T4) 161 ([.rsl 1 (List.take (j - i) (List.drop i es)) false] : List AV)) = (some (AV.v (.int .i64 m)))) (bif decide (m > a) then (.need (EntClosed [(false, .box [.v (.int .i64 0), .v (.int .i64 0)])]) (.done (some ((.nrm, [.rsl 1 es false, .v (.int .i64 k), .ptr 5 0 0, .v (.int .i64 m), .v (.int .i64 (Int.ofNat i)), .v (.int .i64 (Int.ofNat n)), .v (.int .i64 (IntKind.i64.wrap (Int.ofNat i + 1)))], [(false, .box [.v (.int .i64 0), .v (.int .i64 0)])]))))) else (.need (EntClosed [(false, .box [.v (.int .i64 0), .v (.int .i64 0)])]) (.done (some ((.nrm, [.rsl 1 es false, .v (.int .i64 k), .ptr 5 0 0, .v (.int .i64 a), .v (.int .i64 (Int.ofNat f)), .v (.int .i64 (Int.ofNat n)), .v (.int .i64 (IntKind.i64.wrap (Int.ofNat i + 1)))], [(false, .box [.v (.int .i64 0), .v (.int .i64 0)])]))))))))) else (.need (EntClosed [(false, .box [.v (.int .i64 0), .v (.int .i64 0)])]) (.done (some (((.exit 0), [.v (.int .i64 k), .ptr 5 0 0, .v (.int .i64 a), .v (.int .i64 (Int.ofNat f))], [(false, .box [.v (.int .i64 0), .v (.int .i64 0)])])))))) := by kernel_rfl
set_option maxRecDepth 100000 in
theorem t108 (es : List AV) (k n a b : Int) : evTreeD (CS T4) 60 108 [.rsl 1 es false, intA k] [.ar (intA (n - 1)), .ar (intA n), .loop 0 [0, 1, 5, 6, 7, 14, 15] [5] [1, 5, 6, 7] [5] (.exit 0) [intA k, .ptr 5 0 0, intA a, intA b] [(false, .box [intA 0, intA 0])]] =
    (.need ((abin (CS T4) BinOp.sub 3 (Operand.tmp 11) (Operand.tmp 12) (AV.v (.int .i64 (Int.ofNat es.length))) (AV.v (.int .i64 k))) = (some (AV.v (.int .i64 (n - 1))))) (.need ((abin (CS T4) BinOp.add 3 (Operand.tmp 13) (Operand.const (Value.int IntKind.i64 1)) (AV.v (.int .i64 (n - 1))) (AV.v (.int .i64 1))) = (some (AV.v (.int .i64 n)))) (.need (EntClosed [(false, .box [.v (.int .i64 0), .v (.int .i64 0)])] ∧ EntClosed [(false, .box [.v (.int .i64 0), .v (.int .i64 0)])] ∧ Says (CS T4) 0 37 false (.loop (loopOf (CS T4) 108 0)) (mkSt [0, 1, 5, 6, 7, 14, 15] [5] 37 [.rsl 1 es false, .v (.int .i64 k), .ptr 5 0 0, .v (.int .i64 (-16385)), .v (.int .i64 0), .v (.int .i64 n), .v (.int .i64 0)] [(false, .box [.v (.int .i64 0), .v (.int .i64 0)])]) (.exit 0) (mkSt [1, 5, 6, 7] [5] 37 [.v (.int .i64 k), .ptr 5 0 0, .v (.int .i64 a), .v (.int .i64 b)] [(false, .box [.v (.int .i64 0), .v (.int .i64 0)])])) (.done (some (.tup [.v (.int .i64 a), .agg [.v (.int .i64 b), .v (.int .i64 (IntKind.i64.wrap (b + k)))]])))))) := by kernel_rfl
set_option maxRecDepth 100000 in
theorem r372 (es : List AV) (k m x a b : Int) (i j : Nat) (st : Int) : roundD (CS T4) 60 2 37 0 49 49 false (loopOf (CS T4) 37 2) [0, 1, 5, 6, 7, 8, 9, 10] [5, 7] [0, 1, 5, 6, 7, 8, 9, 10] [5, 7] [0, 1, 5, 6, 7, 8, 9] [5, 7] [.rsl 1 es false, intA k, .ptr 5 0 0, intA st, .ptr 7 1 0, intA (Int.ofNat i), intA m, intA (Int.ofNat j)] [(false, .box [intA 0, intA 0]), (false, .box [intA a, intA b])] [.br [.chk [intA x]] []] =
    (bif decide (Int.ofNat j < IntKind.i64.wrap (Int.ofNat i + k)) then (.need (es[j]? = (some (AV.v (.int .i64 x)))) (.need (EntClosed [(false, .box [.v (.int .i64 0), .v (.int .i64 0)]), (false, .box [.v (.int .i64 a), .v (.int .i64 b)])]) (.done (some ((.nrm, [.rsl 1 es false, .v (.int .i64 k), .ptr 5 0 0, .v (.int .i64 st), .ptr 7 1 0, .v (.int .i64 (Int.ofNat i)), .v (.int .i64 (if x < m then x else m)), .v (.int .i64 (IntKind.i64.wrap (Int.ofNat j + 1)))], [(false, .box [.v (.int .i64 0), .v (.int .i64 0)]), (false, .box [.v (.int .i64 a), .v (.int .i64 b)])])))))) else (.need (EntClosed [(false, .box [.v (.int .i64 0), .v (.int .i64 0)]), (false, .box [.v (.int .i64 a), .v (.int .i64 b)])]) (.done (some (((.exit 2), [.rsl 1 es false, .v (.int .i64 k), .ptr 5 0 0, .v (.int .i64 st), .ptr 7 1 0, .v (.int .i64 (Int.ofNat i)), .v (.int .i64 m)], [(false, .box [.v (.int .i64 0), .v (.int .i64 0)]), (false, .box [.v (.int .i64 a), .v (.int .i64 b)])])))))) := by kernel_rfl
set_option maxRecDepth 100000 in
theorem r370 (es : List AV) (k x m st a b : Int) (i : Nat) : roundD (CS T4) 60 0 37 0 49 49 false (loopOf (CS T4) 37 0) [0, 1, 5, 6, 7, 8] [5, 7] [0, 1, 5, 6, 7, 8] [5, 7] [5, 6, 7] [5, 7] [.rsl 1 es false, intA k, .ptr 5 0 0, intA st, .ptr 7 1 0, intA (Int.ofNat i)] [(false, .box [intA 0, intA 0]), (false, .box [intA a, intA b])] [.br [.chk [intA x], .loop 2 [0, 1, 5, 6, 7, 8, 9, 10] [5, 7] [0, 1, 5, 6, 7, 8, 9] [5, 7] (.exit 2) [.rsl 1 es false, intA k, .ptr 5 0 0, intA st, .ptr 7 1 0, intA (Int.ofNat i), intA m] [(false, .box [intA 0, intA 0]), (false, .box [intA a, intA b])]] []] =
    (bif decide (IntKind.i64.wrap (Int.ofNat i + k) ≤ Int.ofNat es.length) then (.need (es[i]? = (some (AV.v (.int .i64 x)))) (.need (EntClosed [(false, .box [.v (.int .i64 0), .v (.int .i64 0)]), (false, .box [.v (.int .i64 a), .v (.int .i64 b)])] ∧ EntClosed [(false, .box [.v (.int .i64 0), .v (.int .i64 0)]), (false, .box [.v (.int .i64 a), .v (.int .i64 b)])] ∧ Says (CS T4) 2 49 false (.loop (loopOf (CS T4) 37 2)) (mkSt [0, 1, 5, 6, 7, 8, 9, 10] [5, 7] 49 [.rsl 1 es false, .v (.int .i64 k), .ptr 5 0 0, .v (.int .i64 st), .ptr 7 1 0, .v (.int .i64 (Int.ofNat i)), .v (.int .i64 x), .v (.int .i64 (Int.ofNat i))] [(false, .box [.v (.int .i64 0), .v (.int .i64 0)]), (false, .box [.v (.int .i64 a), .v (.int .i64 b)])]) (.exit 2) (mkSt [0, 1, 5, 6, 7, 8, 9] [5, 7] 49 [.rsl 1 es false, .v (.int .i64 k), .ptr 5 0 0, .v (.int .i64 st), .ptr 7 1 0, .v (.int .i64 (Int.ofNat i)), .v (.int .i64 m)] [(false, .box [.v (.int .i64 0), .v (.int .i64 0)]), (false, .box [.v (.int .i64 a), .v (.int .i64 b)])])) (bif decide (m > st) then (.need (EntClosed [(false, .box [.v (.int .i64 0), .v (.int .i64 0)]), (false, .box [.v (.int .i64 (Int.ofNat i)), .v (.int .i64 (IntKind.i64.wrap (Int.ofNat i + k)))])]) (.done (some ((.nrm, [.rsl 1 es false, .v (.int .i64 k), .ptr 5 0 0, .v (.int .i64 m), .ptr 7 1 0, .v (.int .i64 (IntKind.i64.wrap (Int.ofNat i + 1)))], [(false, .box [.v (.int .i64 0), .v (.int .i64 0)]), (false, .box [.v (.int .i64 (Int.ofNat i)), .v (.int .i64 (IntKind.i64.wrap (Int.ofNat i + k)))])]))))) else (.need (EntClosed [(false, .box [.v (.int .i64 0), .v (.int .i64 0)]), (false, .box [.v (.int .i64 a), .v (.int .i64 b)])]) (.done (some ((.nrm, [.rsl 1 es false, .v (.int .i64 k), .ptr 5 0 0, .v (.int .i64 st), .ptr 7 1 0, .v (.int .i64 (IntKind.i64.wrap (Int.ofNat i + 1)))], [(false, .box [.v (.int .i64 0), .v (.int .i64 0)]), (false, .box [.v (.int .i64 a), .v (.int .i64 b)])])))))))) else (.need (EntClosed [(false, .box [.v (.int .i64 0), .v (.int .i64 0)]), (false, .box [.v (.int .i64 a), .v (.int .i64 b)])]) (.done (some (((.exit 0), [.ptr 5 0 0, .v (.int .i64 st), .ptr 7 1 0], [(false, .box [.v (.int .i64 0), .v (.int .i64 0)]), (false, .box [.v (.int .i64 a), .v (.int .i64 b)])])))))) := by kernel_rfl
set_option maxRecDepth 100000 in
theorem t37 (es : List AV) (k st a b : Int) : evTreeD (CS T4) 60 37 [.rsl 1 es false, intA k] [.loop 0 [0, 1, 5, 6, 7, 8] [5, 7] [5, 6, 7] [5, 7] (.exit 0) [.ptr 5 0 0, intA st, .ptr 7 1 0] [(false, .box [intA 0, intA 0]), (false, .box [intA a, intA b])]] =
    (.need (EntClosed [(false, .box [.v (.int .i64 0), .v (.int .i64 0)]), (false, .box [.v (.int .i64 0), .v (.int .i64 0)])] ∧ EntClosed [(false, .box [.v (.int .i64 0), .v (.int .i64 0)]), (false, .box [.v (.int .i64 a), .v (.int .i64 b)])] ∧ Says (CS T4) 0 49 false (.loop (loopOf (CS T4) 37 0)) (mkSt [0, 1, 5, 6, 7, 8] [5, 7] 49 [.rsl 1 es false, .v (.int .i64 k), .ptr 5 0 0, .v (.int .i64 (-16385)), .ptr 7 1 0, .v (.int .i64 0)] [(false, .box [.v (.int .i64 0), .v (.int .i64 0)]), (false, .box [.v (.int .i64 0), .v (.int .i64 0)])]) (.exit 0) (mkSt [5, 6, 7] [5, 7] 49 [.ptr 5 0 0, .v (.int .i64 st), .ptr 7 1 0] [(false, .box [.v (.int .i64 0), .v (.int .i64 0)]), (false, .box [.v (.int .i64 a), .v (.int .i64 b)])])) (.done (some (.tup [.v (.int .i64 st), .agg [.v (.int .i64 a), .v (.int .i64 b)]])))) := by kernel_rfl
theorem add_ok (S : Specs) (x y : Operand) (a b : Int) : abin (CS S) .add 3 x y (intA a) (intA b) = some (intA (IntKind.i64.wrap (a + b))) := rfl
theorem sub_ok (S : Specs) (x y : Operand) (a b : Int) : abin (CS S) .sub 3 x y (intA a) (intA b) = some (intA (IntKind.i64.wrap (a - b))) := rfl
theorem add_nat {a b : Nat} (h : a + b < two63) : IntKind.i64.wrap (Int.ofNat a + Int.ofNat b) = Int.ofNat (a + b) := by
  have : Int.ofNat a + Int.ofNat b = Int.ofNat (a + b) := rfl
  rw [this]; exact wrap_in (by simp only [Int.ofNat_eq_natCast]; omega) (by unfold two63 at h; simp only [Int.ofNat_eq_natCast]; omega)
theorem specMin {l : List Int} (h : (Nat.ble l.length lim && !l.isEmpty) = true) : minG [slA intC 1 l] = some (intA (minM l)) := by
  have h1 := sp1_at (A := intsC) (F := fun l => bif Nat.ble l.length lim && !l.isEmpty then some (intA (minM l)) else none) l
  rw [h] at h1; exact h1
/-! ### The program's held level -/
def heldOk (l : List Int) (k : Int) : Bool := seriesM l == 0 && (decide (1 ≤ k) && decide (k ≤ Int.ofNat l.length))
theorem heldZ {l : List Int} {k : Int} (h : heldOk l k = true) : Ser l ∧ ∃ n : Nat, k = Int.ofNat n ∧ 1 ≤ n ∧ n ≤ l.length := by
  unfold heldOk at h
  simp only [Bool.and_eq_true, beq_iff_eq, decide_eq_true_eq, seriesZ] at h
  cases k with
  | negSucc k => exact absurd h.2.1 (by omega)
  | ofNat k => exact ⟨h.1, k, rfl, by have := h.2.1; simp only [Int.ofNat_eq_natCast] at this; omega, by have := h.2.2; simp only [Int.ofNat_eq_natCast] at this; omega⟩
def hpS (l : List Int) (n : Nat) (st : Int × Int) (f : Nat) : Int × Int := bif decide (minW l f n > st.1) then (minW l f n, Int.ofNat f) else st
theorem heldP_eq (l : List Int) (n : Nat) : heldP l n = (List.range (l.length - n + 1)).foldl (hpS l n) (-16385, 0) := rfl
def hldM (l : List Int) (k : Int) : AV := .tup [intA (heldP l (natOf k)).1, p2A ((heldP l (natOf k)).2, (heldP l (natOf k)).2 + k)]
def hldG : List AV → Option AV := sp2 intsC intC fun l k => bif heldOk l k then some (hldM l k) else none
theorem foldl_P {α β : Type} (P : β → Prop) (g : β → α → β) : ∀ (l : List α) (s : β), P s → (∀ s x, x ∈ l → P s → P (g s x)) → P (l.foldl g s)
  | [], _, h, _ => h
  | x :: r, s, h, hs => foldl_P P g r (g s x) (hs s x (by simp) h) fun s y hy => hs s y (by simp [hy])
theorem goL_nat {σ τ : Type} (f : σ → Nat → σ) (fin : σ → τ) (n : Nat) (s : σ) : goL (fun _ x s => (.inl (f s x) : σ ⊕ τ)) fin 0 (List.range n) s = fin ((List.range n).foldl f s) := goL_fold (fun _ s x => f s x) fin _ _ _ (fun _ _ _ _ => rfl)
theorem h108 : Holds 108 hldG := holds2 fun l k r hr => by
  cases hb : heldOk l k with
  | false => simp [hb] at hr
  | true =>
    simp only [hb, cond_true, Option.some.injEq] at hr; subst hr
    obtain ⟨hser, n, rfl, hn⟩ := heldZ hb
    have hl := hser.two
    have hl2 := hser.2.1
    have e := e_len intA l
    have h := LoopRun.list (C := CS T4) (p := 0) (nt := 37) (rd := false) (c := loopOf (CS T4) 108 0) (step := fun _ f s => (.inl (hpS l n s f) : (Int × Int) ⊕ (Int × Int))) (fin := id)
      (enc := fun i s => mkSt [0, 1, 5, 6, 7, 14, 15] [5] 37 [.rsl 1 (l.map intA) false, intA (Int.ofNat n), .ptr 5 0 0, intA s.1, intA s.2, intA (Int.ofNat (l.length - n + 1)), intA (Int.ofNat i)] [(false, .box [intA 0, intA 0])])
      (ex := fun _ => .exit 0) (out := fun s => mkSt [1, 5, 6, 7] [5] 37 [intA (Int.ofNat n), .ptr 5 0 0, intA s.1, intA s.2] [(false, .box [intA 0, intA 0])]) (l := List.range (l.length - n + 1)) (fun _ s => ∃ q : Nat, s.2 = Int.ofNat q)
      (fun i f s hx hs => by
        obtain ⟨rfl, hi⟩ := range_get hx
        obtain ⟨a, b⟩ := s
        obtain ⟨q, rfl⟩ := hs
        have hr := r108 (l.map intA) (Int.ofNat n) (minW l f n) a f (l.length - n + 1) q (f + n)
        have ew : ((l.map intA).drop f).take (f + n - f) = ((l.drop f).take n).map intA := by rw [show f + n - f = n by omega, List.map_take, List.map_drop]
        have hsp : (Nat.ble ((l.drop f).take n).length lim && !((l.drop f).take n).isEmpty) = true := by
          have : ((l.drop f).take n).length = n := by simp; omega
          have h2 : ((l.drop f).take n).isEmpty = false := by
            cases hd : (l.drop f).take n with
            | nil => rw [hd] at this; simp at this; omega
            | cons => rfl
          rw [this, h2]
          simp; unfold lim; omega
        rw [lt_of hi, wrap_ix hi (by omega), ew] at hr
        unfold hpS
        cases hg : decide (minW l f n > a) with
        | true =>
          rw [hg] at hr
          refine ⟨T4_ok.rndN hr ⟨?_, ⟨by omega, by simp; omega⟩, ⟨rfl, specMin hsp⟩, trivial, rfl⟩, f, rfl⟩
          rw [show (AV.v (.int .i64 (Int.ofNat (f + n)))) = intA (IntKind.i64.wrap (Int.ofNat f + Int.ofNat n)) by rw [add_nat (by omega)]]
          exact add_ok ..
        | false =>
          rw [hg] at hr
          refine ⟨T4_ok.rndN hr ⟨?_, ⟨by omega, by simp; omega⟩, ⟨rfl, specMin hsp⟩, trivial, rfl⟩, q, rfl⟩
          rw [show (AV.v (.int .i64 (Int.ofNat (f + n)))) = intA (IntKind.i64.wrap (Int.ofNat f + Int.ofNat n)) by rw [add_nat (by omega)]]
          exact add_ok ..)
      (fun s hs => by
        obtain ⟨a, b⟩ := s
        obtain ⟨q, rfl⟩ := hs
        exact ⟨T4_ok.rndX (r108 (l.map intA) (Int.ofNat n) 0 a (List.range (l.length - n + 1)).length (l.length - n + 1) q 0) (by rw [List.length_range, lt_self]; exact ⟨trivial, rfl⟩), by simp⟩)
      (List.range (l.length - n + 1)) [] (-16385, 0) rfl ⟨0, rfl⟩
    rw [show ([] : List Nat).length = 0 from rfl, goL_nat (hpS l n) id] at h
    have hq : ∃ q : Nat, (heldP l n).2 = Int.ofNat q ∧ q ≤ l.length := by
      rw [heldP_eq]
      refine foldl_P (fun s : Int × Int => ∃ q : Nat, s.2 = Int.ofNat q ∧ q ≤ l.length) (hpS l n) _ _ ⟨0, rfl, by omega⟩ (fun s f hf hs => ?_)
      rw [List.mem_range] at hf
      unfold hpS
      cases decide (minW l f n > s.1) with
      | true => exact ⟨f, rfl, by omega⟩
      | false => exact hs
    obtain ⟨q, hq1, hq2⟩ := hq
    refine T4_ok.tr (t108 (l.map intA) (Int.ofNat n) (Int.ofNat (l.length - n + 1)) (heldP l n).1 (heldP l n).2) ⟨?_, ?_, ⟨trivial, trivial, h.says⟩, ?_⟩
    · rw [e, show (AV.v (.int .i64 (Int.ofNat (l.length - n + 1) - 1))) = intA (IntKind.i64.wrap (Int.ofNat l.length - Int.ofNat n)) by
        rw [sub_nat hn.2 (by omega)]
        show AV.v (.int .i64 _) = AV.v (.int .i64 _)
        congr 2; simp only [Int.ofNat_eq_natCast]; omega]
      exact sub_ok ..
    · rw [show (AV.v (.int .i64 (Int.ofNat (l.length - n + 1)))) = intA (IntKind.i64.wrap (Int.ofNat (l.length - n + 1) - 1 + 1)) by
        rw [wrap_in (by simp only [Int.ofNat_eq_natCast]; omega) (by simp only [Int.ofNat_eq_natCast]; omega)]
        show AV.v (.int .i64 _) = AV.v (.int .i64 _)
        congr 2; omega]
      exact add_ok ..
    · have hM : hldM l (Int.ofNat n) = AV.tup [intA (heldP l n).1, p2A (Int.ofNat q, Int.ofNat (q + n))] := by
        show AV.tup [intA (heldP l n).1, p2A ((heldP l n).2, (heldP l n).2 + Int.ofNat n)] = _
        rw [hq1]; rfl
      rw [hM, hq1, add_nat (by unfold two63; omega)]
      rfl
/-! ### The reference's -/
def hrS (l : List Int) (n : Nat) (st : Int × Sp) (f : Nat) : Int × Sp := bif decide (minW l f n > st.1) then (minW l f n, (Int.ofNat f, Int.ofNat (f + n))) else st
theorem heldR_eq (l : List Int) (n : Nat) : heldR l n = (List.range (l.length - n + 1)).foldl (hrS l n) (-16385, (0, 0)) := rfl
theorem minI (x m : Int) : (if x < m then x else m) = min m x := by split <;> omega
abbrev hrVs (l : List Int) (n : Nat) (st : Int) : List AV := [.rsl 1 (l.map intA) false, intA (Int.ofNat n), .ptr 5 0 0, intA st, .ptr 7 1 0]
theorem held_in (l : List Int) (n f : Nat) (hf : f + n ≤ l.length) (hn : 1 ≤ n) (hl : l.length < two63) (st : Int) (s : Sp) (x0 : Int) (hx0 : l[f]? = some x0) :
    LoopRun (CS T4) 2 49 false (loopOf (CS T4) 37 2) (mkSt [0, 1, 5, 6, 7, 8, 9, 10] [5, 7] 49 (hrVs l n st ++ [intA (Int.ofNat f), intA x0, intA (Int.ofNat f)]) (lvBs s)) (.exit 2)
      (mkSt [0, 1, 5, 6, 7, 8, 9] [5, 7] 49 (hrVs l n st ++ [intA (Int.ofNat f), intA (minW l f n)]) (lvBs s)) := by
  have hw : ((l.drop f).take n).length = n := by simp; omega
  have h := LoopRun.list (C := CS T4) (p := 2) (nt := 49) (rd := false) (c := loopOf (CS T4) 37 2) (step := fun _ x m => (.inl (min m x) : Int ⊕ Int)) (fin := id)
    (enc := fun i m => mkSt [0, 1, 5, 6, 7, 8, 9, 10] [5, 7] 49 (hrVs l n st ++ [intA (Int.ofNat f), intA m, intA (Int.ofNat (f + i))]) (lvBs s))
    (ex := fun _ => .exit 2) (out := fun m => mkSt [0, 1, 5, 6, 7, 8, 9] [5, 7] 49 (hrVs l n st ++ [intA (Int.ofNat f), intA m]) (lvBs s)) (l := (l.drop f).take n) (fun _ _ => True)
    (fun i x m hx _ => by
      have hi := lt_len hx
      rw [hw] at hi
      have h1 : l[f + i]? = some x := by
        rw [List.getElem?_take, if_pos hi, List.getElem?_drop] at hx; exact hx
      refine ⟨T4_ok.rndN (r372 (l.map intA) (Int.ofNat n) m x s.1 s.2 f (f + i) st) ?_, trivial⟩
      rw [add_nat (by omega), lt_of (show f + i < f + n by omega), wrap_ix (show f + i < l.length by omega) hl, minI]
      exact ⟨get_map _ h1, trivial, rfl⟩)
    (fun m _ => ⟨T4_ok.rndX (r372 (l.map intA) (Int.ofNat n) m 0 s.1 s.2 f (f + ((l.drop f).take n).length) st) (by rw [add_nat (by omega), hw, lt_self]; exact ⟨trivial, rfl⟩), by simp⟩)
    ((l.drop f).take n) [] x0 rfl trivial
  rw [goL_fold (fun _ m x => min m x) id _ _ x0 (fun _ _ _ _ => rfl)] at h
  have : ((l.drop f).take n).foldl min x0 = minW l f n := by
    unfold minW
    cases hd : (l.drop f).take n with
    | nil => rw [hd] at hw; simp at hw; omega
    | cons y r =>
      have hy : ((l.drop f).take n)[0]? = some y := by rw [hd]; rfl
      rw [List.getElem?_take, if_pos (by omega), List.getElem?_drop, Nat.add_zero, hx0] at hy
      simp only [Option.some.injEq] at hy
      subst hy
      show r.foldl min (min x0 x0) = r.foldl min x0
      rw [Int.min_self]
  rw [← this]
  exact h
def hlrM (l : List Int) (k : Int) : AV := .tup [intA (heldR l (natOf k)).1, p2A (heldR l (natOf k)).2]
def hlrG : List AV → Option AV := sp2 intsC intC fun l k => bif heldOk l k then some (hlrM l k) else none
theorem h37 : Holds 37 hlrG := holds2 fun l k r hr => by
  cases hb : heldOk l k with
  | false => simp [hb] at hr
  | true =>
    simp only [hb, cond_true, Option.some.injEq] at hr; subst hr
    obtain ⟨hser, n, rfl, hn⟩ := heldZ hb
    have hl := hser.two
    have hl2 := hser.2.1
    have e := e_len intA l
    have h := LoopRun.list (C := CS T4) (p := 0) (nt := 49) (rd := false) (c := loopOf (CS T4) 37 0) (step := fun _ f s => (.inl (hrS l n s f) : (Int × Sp) ⊕ (Int × Sp))) (fin := id)
      (enc := fun i s => mkSt [0, 1, 5, 6, 7, 8] [5, 7] 49 (hrVs l n s.1 ++ [intA (Int.ofNat i)]) (lvBs s.2))
      (ex := fun _ => .exit 0) (out := fun s => mkSt [5, 6, 7] [5, 7] 49 [.ptr 5 0 0, intA s.1, .ptr 7 1 0] (lvBs s.2)) (l := List.range (l.length - n + 1)) (fun _ _ => True)
      (fun i f s hx _ => by
        obtain ⟨rfl, hi⟩ := range_get hx
        obtain ⟨x0, hx0⟩ : ∃ x0, l[f]? = some x0 := ⟨_, List.getElem?_eq_getElem (show f < l.length by omega)⟩
        have hin := held_in l n f (by omega) hn.1 hl s.1 s.2 x0 hx0
        have hr := r370 (l.map intA) (Int.ofNat n) x0 (minW l f n) s.1 s.2.1 s.2.2 f
        have hle : decide (Int.ofNat (f + n) ≤ Int.ofNat l.length) = true := by simp only [decide_eq_true_eq, Int.ofNat_eq_natCast]; omega
        rw [add_nat (by omega), e, hle, wrap_ix (show f < l.length by omega) hl] at hr
        unfold hrS
        cases hg : decide (minW l f n > s.1) with
        | true =>
          rw [hg] at hr
          exact ⟨T4_ok.rndN hr ⟨get_map _ hx0, ⟨trivial, trivial, hin.says⟩, trivial, rfl⟩, trivial⟩
        | false =>
          rw [hg] at hr
          exact ⟨T4_ok.rndN hr ⟨get_map _ hx0, ⟨trivial, trivial, hin.says⟩, trivial, rfl⟩, trivial⟩)
      (fun s _ => by
        have hle : decide (Int.ofNat (l.length - n + 1 + n) ≤ Int.ofNat l.length) = false := by simp only [decide_eq_false_iff_not, Int.ofNat_eq_natCast]; omega
        exact ⟨T4_ok.rndX (r370 (l.map intA) (Int.ofNat n) 0 0 s.1 s.2.1 s.2.2 (List.range (l.length - n + 1)).length) (by rw [List.length_range, add_nat (by unfold two63; omega), e, hle]; exact ⟨trivial, rfl⟩), by simp⟩)
      (List.range (l.length - n + 1)) [] (-16385, (0, 0)) rfl trivial
    rw [show ([] : List Nat).length = 0 from rfl, goL_nat (hrS l n) id] at h
    exact T4_ok.tr (t37 (l.map intA) (Int.ofNat n) (heldR l n).1 (heldR l n).2.1 (heldR l n).2.2) ⟨⟨trivial, trivial, h.says⟩, rfl⟩
def T5 : Specs := (T4.set 108 hldG).set 37 hlrG
theorem T5_ok : Ok T5 := (T4_ok.set h108).set h37
end Go.Vm.S6
