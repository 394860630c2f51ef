/- Seats: the reference's searches and checks. -/
import Derived.Test.YtliikgffjphhjaaGreatDoorS3T4
import Derived.Test.YtliikgffjphhjaaGreatDoorS3B1
namespace Go.Vm.S3
open Go.Proofs Go.RowKit
set_option maxRecDepth 100000 in
theorem t65 (es fs : List AV) : evTreeD (CS T4) 60 65 [.rsl 6 es false, .rsl 3 fs false] [] =
    (bif decide (Int.ofNat es.length ≤ 17) then (.done (some (.v (.bool (decide (Int.ofNat fs.length ≤ 18)))))) else (.done (some (.v (.bool false))))) := by kernel_rfl
set_option maxRecDepth 100000 in
theorem r158 (es : List AV) (s : ByteArray) (x : ByteArray × Bool) (i : Nat) : roundD (CS T4) 60 0 158 0 20 20 false (loopOf (CS T4) 158 0) [0, 1, 5] [] [0, 1, 5] [] [4] [] [.rsl 2 es false, strA s, intA (Int.ofNat i)] [] [.chk [stA x]] =
    (bif decide (Int.ofNat i < Int.ofNat es.length) then (.need (es[i]? = (some (AV.agg [.v (.string x.fst), .v (.bool x.snd)]))) (bif x.fst.toList == s.toList then (.need (EntClosed []) (.done (some ((.ret, [.v (.int .i64 (Int.ofNat i))], []))))) else (.need (EntClosed []) (.done (some ((.nrm, [.rsl 2 es false, .v (.string s), .v (.int .i64 (IntKind.i64.wrap (Int.ofNat i + 1)))], []))))))) else (.need (EntClosed []) (.done (some (((.exit 0), [.bad], [])))))) := by kernel_rfl
set_option maxRecDepth 100000 in
theorem t158r (es : List AV) (s : ByteArray) (k : Int) : evTreeD (CS T4) 60 158 [.rsl 2 es false, strA s] [.loop 0 [0, 1, 5] [] [4] [] .ret [intA k] []] =
    (.need (EntClosed [] ∧ EntClosed [] ∧ Says (CS T4) 0 20 false (.loop (loopOf (CS T4) 158 0)) (mkSt [0, 1, 5] [] 20 [.rsl 2 es false, .v (.string s), .v (.int .i64 0)] []) .ret (mkSt [4] [] 20 [.v (.int .i64 k)] [])) (.done (some (.v (.int .i64 k))))) := by kernel_rfl
set_option maxRecDepth 100000 in
theorem t158e (es : List AV) (s : ByteArray) : evTreeD (CS T4) 60 158 [.rsl 2 es false, strA s] [.loop 0 [0, 1, 5] [] [4] [] (.exit 0) [.bad] []] =
    (.need (EntClosed [] ∧ EntClosed [] ∧ Says (CS T4) 0 20 false (.loop (loopOf (CS T4) 158 0)) (mkSt [0, 1, 5] [] 20 [.rsl 2 es false, .v (.string s), .v (.int .i64 0)] []) (.exit 0) (mkSt [4] [] 20 [.bad] [])) (.done (some (.v (.int .i64 (-1)))))) := by kernel_rfl
set_option maxRecDepth 100000 in
theorem r160a (es : List AV) (s : ByteArray) (x : ByteArray × ByteArray) (i : Nat) : roundD (CS T4) 60 0 160 0 29 29 false (loopOf (CS T4) 160 0) [0, 1, 5, 6] [] [0, 1, 5, 6] [27] [5] [] [.rsl 2 es false, strA s, nilS, intA (Int.ofNat i)] [] [.chk [sgA x], .chk [sgA x]] =
    (bif decide (Int.ofNat i < Int.ofNat es.length) then (.need (es[i]? = (some (AV.agg [.v (.string x.fst), .v (.string x.snd)]))) (bif x.fst.toList == s.toList then (.need (es[i]? = (some (AV.agg [.v (.string x.fst), .v (.string x.snd)]))) (.need (EntClosed [(false, .arr 1 [.v (.string x.snd)] false)]) (.done (some ((.nrm, [.rsl 2 es false, .v (.string s), .sl 27 0 1 0 1, .v (.int .i64 (IntKind.i64.wrap (Int.ofNat i + 1)))], [(false, .arr 1 [.v (.string x.snd)] false)])))))) else (.done none))) else (.need (EntClosed []) (.done (some (((.exit 0), [.v (.slice none 0 0)], [])))))) := by kernel_rfl
set_option maxRecDepth 100000 in
theorem r160n (es : List AV) (s : ByteArray) (x : ByteArray × ByteArray) (i : Nat) : roundD (CS T4) 60 0 160 0 29 29 false (loopOf (CS T4) 160 0) [0, 1, 5, 6] [] [0, 1, 5, 6] [] [5] [] [.rsl 2 es false, strA s, nilS, intA (Int.ofNat i)] [] [.chk [sgA x], .chk [sgA x]] =
    (bif decide (Int.ofNat i < Int.ofNat es.length) then (.need (es[i]? = (some (AV.agg [.v (.string x.fst), .v (.string x.snd)]))) (bif x.fst.toList == s.toList then (.need (es[i]? = (some (AV.agg [.v (.string x.fst), .v (.string x.snd)]))) (.need (EntClosed []) (.done (some ((.nrm, [.rsl 2 es false, .v (.string s), .bad, .v (.int .i64 (IntKind.i64.wrap (Int.ofNat i + 1)))], [])))))) else (.need (EntClosed []) (.done (some ((.nrm, [.rsl 2 es false, .v (.string s), .v (.slice none 0 0), .v (.int .i64 (IntKind.i64.wrap (Int.ofNat i + 1)))], []))))))) else (.need (EntClosed []) (.done (some (((.exit 0), [.v (.slice none 0 0)], [])))))) := by kernel_rfl
set_option maxRecDepth 100000 in
theorem r160b (es rs : List AV) (s : ByteArray) (x : ByteArray × ByteArray) (i k : Nat) : roundD (CS T4) 60 0 160 0 29 29 false (loopOf (CS T4) 160 0) [0, 1, 5, 6] [27] [0, 1, 5, 6] [27] [5] [27] [.rsl 2 es false, strA s, .sl 27 0 1 0 k, intA (Int.ofNat i)] [(false, .arr 1 rs false)] [.chk [sgA x], .chk [sgA x], .chk rs] =
    (bif decide (Int.ofNat i < Int.ofNat es.length) then (.need (es[i]? = (some (AV.agg [.v (.string x.fst), .v (.string x.snd)]))) (bif x.fst.toList == s.toList then (.need (es[i]? = (some (AV.agg [.v (.string x.fst), .v (.string x.snd)]))) (.need (k = rs.length ∧ true = true ∧ 1 = 1 ∧ (rs ++ ([.v (.string x.snd)] : List AV)).length * 16 ≤ 35184372088832 ∧ (rs ++ ([.v (.string x.snd)] : List AV)).length ≤ 35184372088832 ∧ 16 ≠ 0) (.need (EntClosed [(false, .arr 1 (rs ++ ([.v (.string x.snd)] : List AV)) false)]) (.done (some ((.nrm, [.rsl 2 es false, .v (.string s), .sl 27 0 1 0 ((rs ++ ([.v (.string x.snd)] : List AV)).length), .v (.int .i64 (IntKind.i64.wrap (Int.ofNat i + 1)))], [(false, .arr 1 (rs ++ ([.v (.string x.snd)] : List AV)) false)]))))))) else (.need (EntClosed [(false, .arr 1 rs false)]) (.done (some ((.nrm, [.rsl 2 es false, .v (.string s), .sl 27 0 1 0 k, .v (.int .i64 (IntKind.i64.wrap (Int.ofNat i + 1)))], [(false, .arr 1 rs false)]))))))) else (.need (EntClosed [(false, .arr 1 rs false)]) (.done (some (((.exit 0), [.sl 27 0 1 0 k], [(false, .arr 1 rs false)])))))) := by kernel_rfl
set_option maxRecDepth 100000 in
theorem t160 (es rs : List AV) (s : ByteArray) : evTreeD (CS T4) 60 160 [.rsl 2 es false, strA s] [.loop 0 [0, 1, 5, 6] [] [5] [] (.exit 0) [.rsl 1 rs false] []] =
    (.need (EntClosed [] ∧ EntClosed [] ∧ Says (CS T4) 0 29 false (.loop (loopOf (CS T4) 160 0)) (mkSt [0, 1, 5, 6] [] 29 [.rsl 2 es false, .v (.string s), .v (.slice none 0 0), .v (.int .i64 0)] []) (.exit 0) (mkSt [5] [] 29 [.rsl 1 rs false] [])) (.done (some (.rsl 1 rs false)))) := by kernel_rfl
set_option maxRecDepth 100000 in
theorem r69 (es : List AV) (x : I6) (i : Nat) : roundD (CS T4) 60 0 69 0 48 48 false (loopOf (CS T4) 69 0) [0, 4] [] [0, 4] [] [2] [] [.rsl 6 es false, intA (Int.ofNat i)] [] [.chk [bxA x], .chk [bxA x], .chk [bxA x]] =
    (bif decide (Int.ofNat i < Int.ofNat es.length) then (.need (es[i]? = (some (AV.agg [.v (.int .i64 x.fst), .v (.int .i64 x.snd.fst), .v (.int .i64 x.snd.snd.fst), .v (.int .i64 x.snd.snd.snd.fst), .v (.int .i64 x.snd.snd.snd.snd.fst), .v (.int .i64 x.snd.snd.snd.snd.snd)]))) (.need (es[i]? = (some (AV.agg [.v (.int .i64 x.fst), .v (.int .i64 x.snd.fst), .v (.int .i64 x.snd.snd.fst), .v (.int .i64 x.snd.snd.snd.fst), .v (.int .i64 x.snd.snd.snd.snd.fst), .v (.int .i64 x.snd.snd.snd.snd.snd)]))) (.need (es[i]? = (some (AV.agg [.v (.int .i64 x.fst), .v (.int .i64 x.snd.fst), .v (.int .i64 x.snd.snd.fst), .v (.int .i64 x.snd.snd.snd.fst), .v (.int .i64 x.snd.snd.snd.snd.fst), .v (.int .i64 x.snd.snd.snd.snd.snd)]))) (bif firstM [ivM (x.fst, x.snd.fst) (-10000) 10000, ivM (x.snd.snd.fst, x.snd.snd.snd.fst) (-10000) 10000, ivM x.snd.snd.snd.snd (-10000) 10000] != 0 then (.need (EntClosed []) (.done (some ((.ret, [.v (.int .i64 (firstM [ivM (x.fst, x.snd.fst) (-10000) 10000, ivM (x.snd.snd.fst, x.snd.snd.snd.fst) (-10000) 10000, ivM x.snd.snd.snd.snd (-10000) 10000]))], []))))) else (.need (EntClosed []) (.done (some ((.nrm, [.rsl 6 es false, .v (.int .i64 (IntKind.i64.wrap (Int.ofNat i + 1)))], []))))))))) else (.need (EntClosed []) (.done (some (((.exit 0), [.bad], [])))))) := by kernel_rfl
set_option maxRecDepth 100000 in
theorem t69r (es : List AV) (k : Int) : evTreeD (CS T4) 60 69 [.rsl 6 es false] [.loop 0 [0, 4] [] [2] [] .ret [intA k] []] =
    (bif firstM [whenM (Int.ofNat es.length == 0) 12, whenM (decide (Int.ofNat es.length > 16)) 5] != 0 then (.done (some (.v (.int .i64 (firstM [whenM (Int.ofNat es.length == 0) 12, whenM (decide (Int.ofNat es.length > 16)) 5]))))) else (.need (EntClosed [] ∧ EntClosed [] ∧ Says (CS T4) 0 48 false (.loop (loopOf (CS T4) 69 0)) (mkSt [0, 4] [] 48 [.rsl 6 es false, .v (.int .i64 0)] []) .ret (mkSt [2] [] 48 [.v (.int .i64 k)] [])) (.done (some (.v (.int .i64 k)))))) := by kernel_rfl
set_option maxRecDepth 100000 in
theorem t69e (es : List AV) : evTreeD (CS T4) 60 69 [.rsl 6 es false] [.loop 0 [0, 4] [] [2] [] (.exit 0) [.bad] []] =
    (bif firstM [whenM (Int.ofNat es.length == 0) 12, whenM (decide (Int.ofNat es.length > 16)) 5] != 0 then (.done (some (.v (.int .i64 (firstM [whenM (Int.ofNat es.length == 0) 12, whenM (decide (Int.ofNat es.length > 16)) 5]))))) else (.need (EntClosed [] ∧ EntClosed [] ∧ Says (CS T4) 0 48 false (.loop (loopOf (CS T4) 69 0)) (mkSt [0, 4] [] 48 [.rsl 6 es false, .v (.int .i64 0)] []) (.exit 0) (mkSt [2] [] 48 [.bad] [])) (.done (some (.v (.int .i64 0)))))) := by kernel_rfl
set_option maxRecDepth 100000 in
theorem r71 (es : List AV) (x : V3) (i : Nat) : roundD (CS T4) 60 0 71 0 25 25 false (loopOf (CS T4) 71 0) [0, 5] [] [0, 5] [] [4] [] [.rsl 3 es false, intA (Int.ofNat i)] [] [.chk [vA x]] =
    (bif decide (Int.ofNat i < Int.ofNat es.length) then (.need (es[i]? = (some (AV.agg [.v (.int .i64 x.fst), .v (.int .i64 x.snd.fst), .v (.int .i64 x.snd.snd)]))) (bif vecM x 10000 != 0 then (.need (EntClosed []) (.done (some ((.ret, [.v (.int .i64 (vecM x 10000))], []))))) else (.need (EntClosed []) (.done (some ((.nrm, [.rsl 3 es false, .v (.int .i64 (IntKind.i64.wrap (Int.ofNat i + 1)))], []))))))) else (.need (EntClosed []) (.done (some (((.exit 0), [.bad], [])))))) := by kernel_rfl
set_option maxRecDepth 100000 in
theorem t71r (es : List AV) (n k : Int) : evTreeD (CS T4) 60 71 [.rsl 3 es false, intA n] [.loop 0 [0, 5] [] [4] [] .ret [intA k] []] =
    (bif Int.ofNat es.length != n then (.done (some (.v (.int .i64 2)))) else (.need (EntClosed [] ∧ EntClosed [] ∧ Says (CS T4) 0 25 false (.loop (loopOf (CS T4) 71 0)) (mkSt [0, 5] [] 25 [.rsl 3 es false, .v (.int .i64 0)] []) .ret (mkSt [4] [] 25 [.v (.int .i64 k)] [])) (.done (some (.v (.int .i64 k)))))) := by kernel_rfl
set_option maxRecDepth 100000 in
theorem t71e (es : List AV) (n : Int) : evTreeD (CS T4) 60 71 [.rsl 3 es false, intA n] [.loop 0 [0, 5] [] [4] [] (.exit 0) [.bad] []] =
    (bif Int.ofNat es.length != n then (.done (some (.v (.int .i64 2)))) else (.need (EntClosed [] ∧ EntClosed [] ∧ Says (CS T4) 0 25 false (.loop (loopOf (CS T4) 71 0)) (mkSt [0, 5] [] 25 [.rsl 3 es false, .v (.int .i64 0)] []) (.exit 0) (mkSt [4] [] 25 [.bad] [])) (.done (some (.v (.int .i64 0)))))) := by kernel_rfl
/-! ### FindStep -/
def findM (l : List (ByteArray × Bool)) (s : ByteArray) : Int := (srch (fun i x => bif seq x.1 s then some (Int.ofNat i) else none) 0 l).getD (-1)
def findG : List AV → Option AV := sp2 (listC stC 2) strC fun l s => bif Nat.blt l.length two63 then some (intA (findM l s)) else none
theorem h158 : Holds 158 findG := holds2 fun l s r hr => by
  cases hb : Nat.blt l.length two63 with
  | false => simp [hb] at hr
  | true =>
    simp only [hb, cond_true, Option.some.injEq] at hr; subst hr
    have hl : l.length < two63 := Nat.le_of_ble_eq_true hb
    have h := LoopRun.find (C := CS T4) (p := 0) (nt := 20) (rd := false) (c := loopOf (CS T4) 158 0) (fun i (x : ByteArray × Bool) => bif seq x.1 s then some (Int.ofNat i) else none) (fun i => mkSt [0, 1, 5] [] 20 [.rsl 2 (l.map stA) false, strA s, intA (Int.ofNat i)] [])
      (fun t => mkSt [4] [] 20 [intA t] []) (mkSt [4] [] 20 [.bad] []) (.exit 0) (fun _ => .ret) l (by simp) (by simp)
      (fun i x hx => by
        have hi := lt_len hx
        have e := e_len stA l
        cases h : seq x.1 s with
        | true => exact T4_ok.rndR (r158 (l.map stA) s x i) (by rw [e, lt_of hi]; change _ ∧ (bif seq x.1 s then _ else _ : Dt _).ok _; rw [h]; exact ⟨get_map _ hx, trivial, rfl⟩)
        | false => exact T4_ok.rndN (r158 (l.map stA) s x i) (by rw [e, lt_of hi, wrap_ix hi hl]; change _ ∧ (bif seq x.1 s then _ else _ : Dt _).ok _; rw [h]; exact ⟨get_map _ hx, trivial, rfl⟩))
      (T4_ok.rndX (r158 (l.map stA) s (s, false) l.length) (by rw [e_len, lt_self]; exact ⟨trivial, rfl⟩))
    unfold findM
    cases hq : srch (fun i (x : ByteArray × Bool) => bif seq x.1 s then some (Int.ofNat i) else none) 0 l with
    | some t => rw [hq] at h; exact T4_ok.tr (t158r (l.map stA) s t) ⟨⟨trivial, trivial, h.says⟩, rfl⟩
    | none => rw [hq] at h; exact T4_ok.tr (t158e (l.map stA) s) ⟨⟨trivial, trivial, h.says⟩, rfl⟩

/-! ### Persons -/
def personsM (l : List (ByteArray × ByteArray)) (s : ByteArray) : List ByteArray := (l.filter fun x => seq x.1 s).map fun x => x.2
def personsG : List AV → Option AV := sp2 (listC sgC 2) strC fun l s => bif Nat.ble l.length lim then some (slA strC 1 (personsM l s)) else none
theorem closedStr (m : List ByteArray) : ClosedL (m.map strA) := ClosedL.map fun _ => rfl
theorem h160 : Holds 160 personsG := holds2 fun l s r hr => by
  cases hb : Nat.ble l.length lim with
  | false => simp [hb] at hr
  | true =>
    simp only [hb, cond_true, Option.some.injEq] at hr; subst hr
    have hl0 : l.length ≤ lim := Nat.le_of_ble_eq_true hb
    have hl : l.length < two63 := by unfold lim at hl0; unfold two63; omega
    have e := e_len sgA l
    have h := LoopRun.gather (C := CS T4) (p := 0) (nt := 29) (rd := false) (c := loopOf (CS T4) 160 0) (fun _ (x : ByteArray × ByteArray) => bif seq x.1 s then [x.2] else []) 1 (fun _ x => by cases seq x.1 s <;> simp)
      (fun i (acc : List ByteArray) => blSt 27 1 [0, 1, 5, 6] 29 (fun a => [.rsl 2 (l.map sgA) false, strA s, a, intA (Int.ofNat i)]) (acc.map strA)) (.exit 0) (fun acc => mkSt [5] [] 29 [.rsl 1 (acc.map strA) false] []) l (by simp)
      (fun i x acc hx hacc => by
        have hi := lt_len hx
        have hlen : ((acc ++ [x.2]).map strA).length ≤ 35184372088832 / 1024 := by simp; unfold lim at hl0; omega
        cases h : seq x.1 s with
        | true =>
          cases acc with
          | nil => exact T4_ok.rndN (r160a (l.map sgA) s x i) (by rw [e, lt_of hi, wrap_ix hi hl]; change _ ∧ (bif seq x.1 s then _ else _ : Dt _).ok _; rw [h]; exact ⟨get_map _ hx, get_map _ hx, ⟨closedStr [x.2], trivial⟩, rfl⟩)
          | cons y ys =>
            show Says _ _ _ _ _ _ _ (blSt _ _ _ _ _ (((y :: ys) ++ [x.2]).map strA))
            rw [show ((y :: ys) ++ [x.2]).map strA = (y :: ys).map strA ++ [strA x.2] by simp] at hlen ⊢
            exact T4_ok.rndN (r160b (l.map sgA) ((y :: ys).map strA) s x i ((y :: ys).map strA).length) (by
              rw [e, lt_of hi, wrap_ix hi hl]; change _ ∧ (bif seq x.1 s then _ else _ : Dt _).ok _; rw [h]
              exact ⟨get_map _ hx, get_map _ hx, ⟨rfl, rfl, rfl, lenOk hlen (by omega), lenOk1 hlen, by omega⟩, ⟨(closedStr (y :: ys)).append (closedStr [x.2]), trivial⟩, rfl⟩)
        | false =>
          rw [cond_false, List.append_nil]
          cases acc with
          | nil => exact T4_ok.rndN (r160n (l.map sgA) s x i) (by rw [e, lt_of hi, wrap_ix hi hl]; change _ ∧ (bif seq x.1 s then _ else _ : Dt _).ok _; rw [h]; exact ⟨get_map _ hx, trivial, rfl⟩)
          | cons y ys => exact T4_ok.rndN (r160b (l.map sgA) ((y :: ys).map strA) s x i ((y :: ys).map strA).length) (by
              rw [e, lt_of hi, wrap_ix hi hl]; change _ ∧ (bif seq x.1 s then _ else _ : Dt _).ok _; rw [h]
              exact ⟨get_map _ hx, ⟨closedStr (y :: ys), trivial⟩, rfl⟩))
      (fun acc _ => by
        refine Says.blEnd (key := 27) ?_ (closedStr acc)
        cases acc with
        | nil => exact T4_ok.rndX (r160n (l.map sgA) s (s, s) l.length) (by rw [e, lt_self]; exact ⟨trivial, rfl⟩)
        | cons y ys => exact T4_ok.rndX (r160b (l.map sgA) ((y :: ys).map strA) s (s, s) l.length ((y :: ys).map strA).length) (by rw [e, lt_self]; exact ⟨⟨closedStr (y :: ys), trivial⟩, rfl⟩))
    rw [gath_filter] at h
    exact T4_ok.tr (t160 (l.map sgA) ((personsM l s).map strA) s) ⟨⟨trivial, trivial, h.says⟩, rfl⟩

/-! ### The first error of a list -/
theorem srch_err {α : Type} (g : α → Int) : ∀ (l : List α) (i : Nat), srch (fun _ x => bif g x != 0 then some (g x) else none) i l = bif firstM (l.map g) != 0 then some (firstM (l.map g)) else none
  | [], _ => rfl
  | x :: r, i => by
    unfold srch
    rw [List.map_cons]
    unfold firstM
    cases h : g x != 0 with
    | true => simp [h]
    | false => simp only [cond_false]; exact srch_err g r (i + 1)
def shortM (n m : Nat) : Bool := bif decide (Int.ofNat n ≤ 17) then decide (Int.ofNat m ≤ 18) else false
def seatShortG : List AV → Option AV := sp2 (listC bxC 6) (listC vecC 3) fun l m => some (boolA (shortM l.length m.length))
theorem h65 : Holds 65 seatShortG := holds2 fun l m r hr => by
  simp only [Option.some.injEq] at hr; subst hr
  refine T4_ok.tr (t65 (l.map bxA) (m.map vA)) ?_
  unfold shortM
  rw [e_len, e_len]
  cases decide (Int.ofNat l.length ≤ 17) <;> rfl
def manyM (n : Nat) (most : Int) : Int := firstM [whenM (Int.ofNat n == 0) 12, whenM (decide (Int.ofNat n > most)) 5]
def seatM (l : List I6) : Int := bif manyM l.length 16 != 0 then manyM l.length 16 else firstM (l.map bxM)
def seatG : List AV → Option AV := sp1 (listC bxC 6) fun l => bif Nat.blt l.length two63 then some (intA (seatM l)) else none
theorem h69 : Holds 69 seatG := holds1 fun l r hr => by
  cases hb : Nat.blt l.length two63 with
  | false => simp [hb] at hr
  | true =>
    simp only [hb, cond_true, Option.some.injEq] at hr; subst hr
    have hl : l.length < two63 := Nat.le_of_ble_eq_true hb
    have e := e_len bxA l
    have h := LoopRun.find (C := CS T4) (p := 0) (nt := 48) (rd := false) (c := loopOf (CS T4) 69 0) (fun _ (x : I6) => bif bxM x != 0 then some (bxM x) else none) (fun i => mkSt [0, 4] [] 48 [.rsl 6 (l.map bxA) false, intA (Int.ofNat i)] [])
      (fun t => mkSt [2] [] 48 [intA t] []) (mkSt [2] [] 48 [.bad] []) (.exit 0) (fun _ => .ret) l (by simp) (by simp)
      (fun i x hx => by
        have hi := lt_len hx
        cases h : bxM x != 0 with
        | true => exact T4_ok.rndR (r69 (l.map bxA) x i) (by rw [e, lt_of hi]; change _ ∧ _ ∧ _ ∧ (bif bxM x != 0 then _ else _ : Dt _).ok _; rw [h]; exact ⟨get_map _ hx, get_map _ hx, get_map _ hx, trivial, rfl⟩)
        | false => exact T4_ok.rndN (r69 (l.map bxA) x i) (by rw [e, lt_of hi, wrap_ix hi hl]; change _ ∧ _ ∧ _ ∧ (bif bxM x != 0 then _ else _ : Dt _).ok _; rw [h]; exact ⟨get_map _ hx, get_map _ hx, get_map _ hx, trivial, rfl⟩))
      (T4_ok.rndX (r69 (l.map bxA) (0, 0, 0, 0, 0, 0) l.length) (by rw [e, lt_self]; exact ⟨trivial, rfl⟩))
    rw [srch_err] at h
    unfold seatM
    cases hm : manyM l.length 16 != 0 with
    | true => exact T4_ok.tr (t69e (l.map bxA)) (by rw [e]; change (bif manyM l.length 16 != 0 then _ else _ : Dt _).ok _; rw [hm]; rfl)
    | false =>
      cases hq : firstM (l.map bxM) != 0 with
      | true => rw [hq] at h; exact T4_ok.tr (t69r (l.map bxA) (firstM (l.map bxM))) (by rw [e]; change (bif manyM l.length 16 != 0 then _ else _ : Dt _).ok _; rw [hm]; exact ⟨⟨trivial, trivial, h.says⟩, rfl⟩)
      | false =>
        rw [hq] at h
        have h0 : firstM (l.map bxM) = 0 := by simpa using hq
        rw [h0]
        exact T4_ok.tr (t69e (l.map bxA)) (by rw [e]; change (bif manyM l.length 16 != 0 then _ else _ : Dt _).ok _; rw [hm]; exact ⟨⟨trivial, trivial, h.says⟩, rfl⟩)
def pointsM (l : List V3) (n : Int) : Int := bif Int.ofNat l.length != n then 2 else firstM (l.map fun v => vecM v 10000)
def pointsG : List AV → Option AV := sp2 (listC vecC 3) intC fun l n => bif Nat.blt l.length two63 then some (intA (pointsM l n)) else none
theorem h71 : Holds 71 pointsG := holds2 fun l n r hr => by
  cases hb : Nat.blt l.length two63 with
  | false => simp [hb] at hr
  | true =>
    simp only [hb, cond_true, Option.some.injEq] at hr; subst hr
    have hl : l.length < two63 := Nat.le_of_ble_eq_true hb
    have e := e_len vA l
    have h := LoopRun.find (C := CS T4) (p := 0) (nt := 25) (rd := false) (c := loopOf (CS T4) 71 0) (fun _ (x : V3) => bif vecM x 10000 != 0 then some (vecM x 10000) else none) (fun i => mkSt [0, 5] [] 25 [.rsl 3 (l.map vA) false, intA (Int.ofNat i)] [])
      (fun t => mkSt [4] [] 25 [intA t] []) (mkSt [4] [] 25 [.bad] []) (.exit 0) (fun _ => .ret) l (by simp) (by simp)
      (fun i x hx => by
        have hi := lt_len hx
        cases h : vecM x 10000 != 0 with
        | true => exact T4_ok.rndR (r71 (l.map vA) x i) (by rw [e, lt_of hi, h]; exact ⟨get_map _ hx, trivial, rfl⟩)
        | false => exact T4_ok.rndN (r71 (l.map vA) x i) (by rw [e, lt_of hi, wrap_ix hi hl, h]; exact ⟨get_map _ hx, trivial, rfl⟩))
      (T4_ok.rndX (r71 (l.map vA) (0, 0, 0) l.length) (by rw [e, lt_self]; exact ⟨trivial, rfl⟩))
    rw [srch_err (fun v => vecM v 10000)] at h
    unfold pointsM
    cases hm : Int.ofNat l.length != n with
    | true => exact T4_ok.tr (t71e (l.map vA) n) (by rw [e, hm]; rfl)
    | false =>
      cases hq : firstM (l.map fun v => vecM v 10000) != 0 with
      | true => rw [hq] at h; exact T4_ok.tr (t71r (l.map vA) n (firstM (l.map fun v => vecM v 10000))) (by rw [e, hm]; exact ⟨⟨trivial, trivial, h.says⟩, rfl⟩)
      | false =>
        rw [hq] at h
        have h0 : firstM (l.map fun v => vecM v 10000) = 0 := by simpa using hq
        rw [h0]
        exact T4_ok.tr (t71e (l.map vA) n) (by rw [e, hm]; exact ⟨⟨trivial, trivial, h.says⟩, rfl⟩)
def T5 : Specs := ((((T4.set 158 findG).set 160 personsG).set 65 seatShortG).set 69 seatG).set 71 pointsG
theorem T5_ok : Ok T5 := ((((T4_ok.set h158).set h160).set h65).set h69).set h71
end Go.Vm.S3
