/- Plain laws: valid parts. -/
import Derived.Test.YtliikgffjphhjaaGreatDoorS3GD
import Derived.Test.YtliikgffjphhjaaGreatDoorS3GB
namespace Go.Vm.S3
open Go.Proofs Go.RowKit
theorem srch_findIxP (s : ByteArray) : ∀ (l : List Pt) (i : Nat), srch (fun i (x : Pt) => bif seq x.1 s then some (Int.ofNat i) else none) i l = (findIx s (l.map fun x => x.1) i).map Int.ofNat
  | [], _ => rfl
  | x :: l, i => by
    unfold srch
    rw [List.map_cons, findIx, bseq_comm]
    cases h : seq x.1 s with
    | true => rfl
    | false => simp only [cond_false]; exact srch_findIxP s l (i + 1)
abbrev nms (l : List Pt) : List ByteArray := l.map fun x => x.1
theorem findP_ix (l : List Pt) (s : ByteArray) : findP l s = ((findIx s (nms l) 0).map Int.ofNat).getD (-1) := by unfold findP; rw [srch_findIxP]
theorem hasP_ix (l : List Pt) (s : ByteArray) : hasP l s = (findIx s (nms l) 0).isSome := by
  unfold hasP
  rw [findP_ix]
  cases findIx s (nms l) 0 with
  | none => rfl
  | some j => simp
theorem parts_at {l : List Pt} (h : partsM l = 0) : manyM l.length 16 = 0 ∧ ∀ i p, l[i]? = some p → partM (l.take i) p = 0 := by
  unfold partsM at h
  cases hm : manyM l.length 16 != 0 with
  | true => rw [hm, cond_true] at h; rw [h] at hm; cases hm
  | false =>
    rw [hm, cond_false] at h
    refine ⟨by simpa using hm, fun i p hp => ?_⟩
    unfold srchE at h
    cases hq : srch (fun i p => bif partM (l.take i) p != 0 then some (partM (l.take i) p) else none) 0 l with
    | some t => rw [hq] at h; exact absurd h (srch_some_ne (F := fun i p => partM (l.take i) p) l 0 hq)
    | none =>
      have h1 := srch_all_none l 0 hq i p hp
      rw [Nat.zero_add] at h1
      cases h0 : partM (l.take i) p != 0 with
      | true => rw [h0] at h1; cases h1
      | false => simpa using h0
theorem within_zero {n lo hi : Int} : withinM n lo hi = 0 ↔ lo ≤ n ∧ n ≤ hi := by
  unfold withinM whenM
  constructor
  · intro h
    cases hb : (decide (n < lo) || decide (n > hi)) with
    | true => rw [hb] at h; cases h
    | false =>
      rw [Bool.or_eq_false_iff] at hb
      have h1 := of_decide_eq_false hb.1
      have h2 := of_decide_eq_false hb.2
      omega
  · intro ⟨h1, h2⟩
    rw [decide_eq_false (by omega), decide_eq_false (by omega)]; rfl
/-- What a valid part is. -/
structure GoodP (l : List Pt) (i : Nat) (p : Pt) : Prop where
  nm : isNameM p.1 = true
  fresh : findIx p.1 (nms (l.take i)) 0 = none
  root : i = 0 → nilB p.2.1 = true
  up : 0 < i → (findIx p.2.1 (nms (l.take i)) 0).isSome = true
  mass : 1 ≤ p.2.2.1 ∧ p.2.2.1 ≤ 100000
  jx : -10000 ≤ p.2.2.2.1 ∧ p.2.2.2.1 ≤ 10000
  jy : -10000 ≤ p.2.2.2.2.1 ∧ p.2.2.2.2.1 ≤ 10000
  jz : -10000 ≤ p.2.2.2.2.2.1 ∧ p.2.2.2.2.2.1 ≤ 10000
theorem goodP {l : List Pt} (h : partsM l = 0) {i : Nat} {p : Pt} (hp : l[i]? = some p) : GoodP l i p := by
  have h1 := (parts_at h).2 i p hp
  have hi := lt_len hp
  have hlen : (l.take i).length = i := by rw [List.length_take]; omega
  unfold partM partE at h1
  rw [hlen] at h1
  obtain ⟨a1, h1⟩ := (firstZ _ _).1 h1
  obtain ⟨a2, h1⟩ := (firstZ _ _).1 h1
  obtain ⟨a3, h1⟩ := (firstZ _ _).1 h1
  obtain ⟨a4, h1⟩ := (firstZ _ _).1 h1
  obtain ⟨a5, h1⟩ := (firstZ _ _).1 h1
  obtain ⟨a6, h1⟩ := (firstZ _ _).1 h1
  unfold vecM at a6
  obtain ⟨v1, a6⟩ := (firstZ _ _).1 a6
  obtain ⟨v2, a6⟩ := (firstZ _ _).1 a6
  obtain ⟨v3, a6⟩ := (firstZ _ _).1 a6
  have w : IntKind.i64.wrap (0 - 10000) = -10000 := by decide
  rw [w] at v1 v2 v3
  have a2 := whenZ (by decide) a2
  have a3 := whenZ (by decide) a3
  have a4 := whenZ (by decide) a4
  rw [hasP_ix] at a2
  refine ⟨?_, ?_, ?_, ?_, within_zero.1 a5, within_zero.1 v1, within_zero.1 v2, within_zero.1 v3⟩
  · have := whenZ (by decide) (show whenM (!isNameM p.1) 8 = 0 from a1)
    simpa using this
  · cases hf : findIx p.1 (nms (l.take i)) 0 with
    | none => rfl
    | some j => rw [hf] at a2; cases a2
  · intro h0
    subst h0
    simpa using a3
  · intro h0
    have hz : (Int.ofNat i == 0) = false := by simp only [beq_eq_false_iff_ne, ne_eq, Int.ofNat_eq_natCast]; omega
    rw [hz, hasP_ix] at a4
    simpa using a4
end Go.Vm.S3

namespace Go.Vm.S3
open Go.Proofs Go.RowKit
/-- The index of a part's parent, among the parts before it. -/
def nxt (l : List Pt) (k : Nat) : Option Nat := match l[k]? with
  | none => none
  | some p => findIx p.2.1 (nms (l.take k)) 0
def orbit (l : List Pt) (o : Option Nat) : Nat → Option Nat
  | 0 => o
  | j + 1 => (orbit l o j).bind (nxt l)
def chI (l : List Pt) : Nat → Option Nat → List Nat
  | 0, _ => []
  | _ + 1, none => []
  | n + 1, some k => k :: chI l n (nxt l k)
theorem nxt_lt {l : List Pt} {k j : Nat} (h : nxt l k = some j) : j < k := by
  unfold nxt at h
  cases hk : l[k]? with
  | none => rw [hk] at h; cases h
  | some p =>
    rw [hk] at h
    have := (findIx_bound h).2
    rw [Nat.zero_add, List.length_map, List.length_take] at this
    omega
theorem orbit_none (l : List Pt) : ∀ j, orbit l none j = none
  | 0 => rfl
  | j + 1 => by rw [orbit, orbit_none l j]; rfl
theorem orbit_step (l : List Pt) (o : Option Nat) : ∀ j, orbit l o (j + 1) = orbit l (o.bind (nxt l)) j
  | 0 => rfl
  | j + 1 => by rw [orbit, orbit_step l o j]; rfl
theorem chI_at (l : List Pt) : ∀ (n : Nat) (o : Option Nat), (∀ k, o = some k → k < n) → ∀ j, (chI l n o)[j]? = orbit l o j
  | 0, none, _, j => by rw [orbit_none]; rfl
  | 0, some k, h, j => absurd (h k rfl) (by omega)
  | n + 1, none, _, j => by rw [orbit_none]; rfl
  | n + 1, some k, h, j => by
    cases j with
    | zero => rfl
    | succ j =>
      rw [chI, List.getElem?_cons_succ, orbit_step]
      exact chI_at l n (nxt l k) (fun i hi => by have := nxt_lt hi; have := h k rfl; omega) j
/-- The indices of a part's chain. -/
def cI (l : List Pt) (s : ByteArray) : List Nat := chI l l.length (findIx s (nms l) 0)
abbrev orb (l : List Pt) (s : ByteArray) (j : Nat) : Option Nat := orbit l (findIx s (nms l) 0) j
theorem find_lt {l : List Pt} {s : ByteArray} {k : Nat} (h : findIx s (nms l) 0 = some k) : k < l.length := by
  have := (findIx_bound h).2
  rw [Nat.zero_add, List.length_map] at this; exact this
theorem cI_at (l : List Pt) (s : ByteArray) (j : Nat) : (cI l s)[j]? = orb l s j := chI_at l l.length _ (fun _k hk => find_lt hk) j
theorem orb_lt {l : List Pt} {s : ByteArray} : ∀ {j k : Nat}, orb l s j = some k → k < l.length
  | 0, k, h => find_lt h
  | j + 1, k, h => by
    have h : (orb l s j).bind (nxt l) = some k := h
    cases ho : orb l s j with
    | none => rw [ho] at h; cases h
    | some i =>
      rw [ho] at h
      have := nxt_lt h
      have := orb_lt ho
      omega
theorem cI_end (l : List Pt) (s : ByteArray) : orb l s (cI l s).length = none := by rw [← cI_at]; simp
theorem chI_len (l : List Pt) : ∀ (n : Nat) (o : Option Nat), (chI l n o).length ≤ n
  | 0, _ => Nat.le_refl 0
  | _ + 1, none => Nat.zero_le _
  | n + 1, some k => by rw [chI, List.length_cons]; have := chI_len l n (nxt l k); omega
theorem cI_len (l : List Pt) (s : ByteArray) : (cI l s).length ≤ l.length := chI_len l _ _
def oI (o : Option Nat) : Int := (o.map Int.ofNat).getD (-1)
def atP (l : List Pt) (k : Nat) : Pt := (l[k]?).getD pt0
theorem atP_get {l : List Pt} {k : Nat} (h : k < l.length) : l[k]? = some (atP l k) := by
  unfold atP
  rw [List.getElem?_eq_getElem h]; rfl
theorem findP_o (l : List Pt) (s : ByteArray) : findP l s = oI (findIx s (nms l) 0) := findP_ix l s
theorem nxt_find {l : List Pt} {k : Nat} (h : k < l.length) : findP (l.take k) (atP l k).2.1 = oI (nxt l k) := by
  rw [findP_o]
  unfold nxt
  rw [atP_get h]
end Go.Vm.S3

namespace Go.Vm.S3
open Go.Proofs Go.RowKit
set_option maxRecDepth 100000 in
theorem r127 (es ks vs ks2 vs2 : List AV) (n i : Nat) (a b : ByteArray) (m x y z : Int) (cs : List AV) : roundD (CS P6) 60 0 127 0 20 20 false (loopOf (CS P6) 127 0) [3, 7, 8, 9] [6] [3, 7, 8, 9] [6] [3] [6] [.mp 6 0, .rsl 7 es false, intA (Int.ofNat n), intA (Int.ofNat i)] [(false, .map ks vs)] [.as 10 true, .chk [.agg [strA a, strA b, intA m, intA x, intA y, intA z, .rsl 2 cs false]], .mu ks2 vs2] =
    (.need ((decide (Int.ofNat i < Int.ofNat n)) = true) (.need (es[i]? = (some (AV.agg [.v (.string a), .v (.string b), .v (.int .i64 m), .v (.int .i64 x), .v (.int .i64 y), .v (.int .i64 z), .rsl 2 cs false]))) (.need ((mapUpd (CS P6) 196 ks vs (AV.v (.string a)) (AV.v (.int .i64 (Int.ofNat i)))) = (some (ks2, vs2))) (.need (EntClosed [(false, .map ks2 vs2)]) (.done (some ((.nrm, [.mp 6 0, .rsl 7 es false, .v (.int .i64 (Int.ofNat n)), .v (.int .i64 (IntKind.i64.wrap (Int.ofNat i + 1)))], [(false, .map ks2 vs2)])))))))) := by kernel_rfl
set_option maxRecDepth 100000 in
theorem r127x (es ks vs : List AV) (n i : Nat) : roundD (CS P6) 60 0 127 0 20 20 false (loopOf (CS P6) 127 0) [3, 7, 8, 9] [6] [3, 7, 8, 9] [6] [3] [6] [.mp 6 0, .rsl 7 es false, intA (Int.ofNat n), intA (Int.ofNat i)] [(false, .map ks vs)] [.as 10 false] =
    (.need ((decide (Int.ofNat i < Int.ofNat n)) = false) (.need (EntClosed [(false, .map ks vs)]) (.done (some (((.exit 0), [.mp 6 0], [(false, .map ks vs)])))))) := by kernel_rfl
set_option maxRecDepth 100000 in
theorem t127 (es ks vs : List AV) : evTreeD (CS P6) 60 127 [.rsl 7 es false] [.loop 0 [3, 7, 8, 9] [6] [3] [6] (.exit 0) [.mp 6 0] [(false, .map ks vs)], .fz 3] =
    (.need (EntClosed [(false, .map [] [])] ∧ EntClosed [(false, .map ks vs)] ∧ Says (CS P6) 0 20 false (.loop (loopOf (CS P6) 127 0)) (mkSt [3, 7, 8, 9] [6] 20 [.mp 6 0, .rsl 7 es false, .v (.int .i64 (Int.ofNat es.length)), .v (.int .i64 0)] [(false, .map [] [])]) (.exit 0) (mkSt [3] [6] 20 [.mp 6 0] [(false, .map ks vs)])) (.need (ClosedL ks ∧ ClosedL vs) (.done (some (.rmp ks vs))))) := by kernel_rfl
set_option maxRecDepth 100000 in
theorem t96 (es rs : List AV) : evTreeD (CS P6) 60 96 [.rsl 7 es false] [.sp [.rsl 7 es false, fnV 174] (.rsl 1 rs false)] =
    (.need (([.rsl 7 es false, .fn (Fn.func 174) [] []] : List AV) = ([.rsl 7 es false, .fn (Fn.func 174) [] []] : List AV) ∧ (Cx.spec (CS P6) 173 ([.rsl 7 es false, .fn (Fn.func 174) [] []] : List AV)) = (some (AV.rsl 1 rs false))) (.done (some (.rsl 1 rs false)))) := by kernel_rfl
set_option maxRecDepth 100000 in
theorem r25a (es ps : List AV) (i : Nat) (f : Int) (a b : ByteArray) (m x y z : Int) (cs : List AV) : roundD (CS P6) 60 0 25 0 30 30 false (loopOf (CS P6) 25 0) [0, 5, 6] [] [0, 5, 6] [28] [5] [] [.rsl 7 es false, nilS, intA (Int.ofNat i)] [] [.as 11 true, .chk [.agg [strA a, strA b, intA m, intA x, intA y, intA z, .rsl 2 cs false]], .skip, .chk [], .chk [.agg [strA a, strA b, intA m, intA x, intA y, intA z, .rsl 2 cs false]], .sp [.rsl 7 ps false, strA b] (intA f)] =
    (.need (true = true) (.need (es[i]? = (some (AV.agg [.v (.string a), .v (.string b), .v (.int .i64 m), .v (.int .i64 x), .v (.int .i64 y), .v (.int .i64 z), .rsl 2 cs false]))) (.need (0 ≤ i ∧ i ≤ es.length) (.need (es[i]? = (some (AV.agg [.v (.string a), .v (.string b), .v (.int .i64 m), .v (.int .i64 x), .v (.int .i64 y), .v (.int .i64 z), .rsl 2 cs false]))) (.need (([.rsl 7 (List.take (i - 0) (List.drop 0 es)) false, .v (.string b)] : List AV) = ([.rsl 7 ps false, .v (.string b)] : List AV) ∧ (Cx.spec (CS P6) 24 ([.rsl 7 (List.take (i - 0) (List.drop 0 es)) false, .v (.string b)] : List AV)) = (some (AV.v (.int .i64 f)))) (.need (EntClosed [(false, .arr 1 [.v (.string a)] false)]) (.done (some ((.nrm, [.rsl 7 es false, .sl 28 0 1 0 1, .v (.int .i64 f)], [(false, .arr 1 [.v (.string a)] false)])))))))))) := by kernel_rfl
set_option maxRecDepth 100000 in
theorem r25xa (es : List AV) (i : Int) : roundD (CS P6) 60 0 25 0 30 30 false (loopOf (CS P6) 25 0) [0, 5, 6] [] [0, 5, 6] [] [5] [] [.rsl 7 es false, nilS, intA i] [] [.as 11 false] =
    (.need ((decide (i ≥ 0)) = false) (.need (EntClosed []) (.done (some (((.exit 0), [.v (.slice none 0 0)], [])))))) := by kernel_rfl
set_option maxRecDepth 100000 in
theorem r25b (es ps : List AV) (i : Nat) (f : Int) (rs : List AV) (k : Nat) (a b : ByteArray) (m x y z : Int) (cs : List AV) : roundD (CS P6) 60 0 25 0 30 30 false (loopOf (CS P6) 25 0) [0, 5, 6] [28] [0, 5, 6] [28] [5] [28] [.rsl 7 es false, .sl 28 0 1 0 k, intA (Int.ofNat i)] [(false, .arr 1 rs false)] [.as 11 true, .chk [.agg [strA a, strA b, intA m, intA x, intA y, intA z, .rsl 2 cs false]], .chk rs, .chk [], .chk [.agg [strA a, strA b, intA m, intA x, intA y, intA z, .rsl 2 cs false]], .sp [.rsl 7 ps false, strA b] (intA f)] =
    (.need (true = true) (.need (es[i]? = (some (AV.agg [.v (.string a), .v (.string b), .v (.int .i64 m), .v (.int .i64 x), .v (.int .i64 y), .v (.int .i64 z), .rsl 2 cs false]))) (.need (k = rs.length ∧ true = true ∧ 1 = 1 ∧ (rs ++ ([.v (.string a)] : List AV)).length * 16 ≤ 35184372088832 ∧ (rs ++ ([.v (.string a)] : List AV)).length ≤ 35184372088832 ∧ 16 ≠ 0) (.need (0 ≤ i ∧ i ≤ es.length) (.need (es[i]? = (some (AV.agg [.v (.string a), .v (.string b), .v (.int .i64 m), .v (.int .i64 x), .v (.int .i64 y), .v (.int .i64 z), .rsl 2 cs false]))) (.need (([.rsl 7 (List.take (i - 0) (List.drop 0 es)) false, .v (.string b)] : List AV) = ([.rsl 7 ps false, .v (.string b)] : List AV) ∧ (Cx.spec (CS P6) 24 ([.rsl 7 (List.take (i - 0) (List.drop 0 es)) false, .v (.string b)] : List AV)) = (some (AV.v (.int .i64 f)))) (.need (EntClosed [(false, .arr 1 (rs ++ ([.v (.string a)] : List AV)) false)]) (.done (some ((.nrm, [.rsl 7 es false, .sl 28 0 1 0 ((rs ++ ([.v (.string a)] : List AV)).length), .v (.int .i64 f)], [(false, .arr 1 (rs ++ ([.v (.string a)] : List AV)) false)]))))))))))) := by kernel_rfl
set_option maxRecDepth 100000 in
theorem r25xb (es : List AV) (i : Int) (rs : List AV) (k : Nat) : roundD (CS P6) 60 0 25 0 30 30 false (loopOf (CS P6) 25 0) [0, 5, 6] [28] [0, 5, 6] [28] [5] [28] [.rsl 7 es false, .sl 28 0 1 0 k, intA i] [(false, .arr 1 rs false)] [.as 11 false] =
    (.need ((decide (i ≥ 0)) = false) (.need (EntClosed [(false, .arr 1 rs false)]) (.done (some (((.exit 0), [.sl 28 0 1 0 k], [(false, .arr 1 rs false)])))))) := by kernel_rfl
set_option maxRecDepth 100000 in
theorem t25 (es rs : List AV) (s : ByteArray) (f : Int) : evTreeD (CS P6) 60 25 [.rsl 7 es false, strA s] [.sp [.rsl 7 es false, strA s] (intA f), .loop 0 [0, 5, 6] [] [5] [] (.exit 0) [.rsl 1 rs false] []] =
    (.need (([.rsl 7 es false, .v (.string s)] : List AV) = ([.rsl 7 es false, .v (.string s)] : List AV) ∧ (Cx.spec (CS P6) 24 ([.rsl 7 es false, .v (.string s)] : List AV)) = (some (AV.v (.int .i64 f)))) (.need (EntClosed [] ∧ EntClosed [] ∧ Says (CS P6) 0 30 false (.loop (loopOf (CS P6) 25 0)) (mkSt [0, 5, 6] [] 30 [.rsl 7 es false, .v (.slice none 0 0), .v (.int .i64 f)] []) (.exit 0) (mkSt [5] [] 30 [.rsl 1 rs false] [])) (.done (some (.rsl 1 rs false))))) := by kernel_rfl
theorem spFull {l : List Pt} {k : Nat} : ([.rsl 7 (List.take (k - 0) (List.drop 0 (l.map ptC.enc))) false, strA (atP l k).2.1] : List AV) = [slA ptC 7 (l.take k), strA (atP l k).2.1] := by rw [take_map]; rfl
/-! ### The names of a chain, of the reference -/
def chainG : List AV → Option AV := sp2 ptsC strC fun l s => bif Nat.ble l.length lim then some (slA strC 1 ((cI l s).map fun k => (atP l k).1)) else none
theorem h25 : Holds 25 chainG := holds2 fun l s r hr => by
  cases hb : Nat.ble l.length lim with
  | false => simp [hb] at hr
  | true =>
    simp only [hb, cond_true, Option.some.injEq] at hr; subst hr
    have hlim := Nat.le_of_ble_eq_true hb
    have hl := limTwo hlim
    have e := e_pt l
    have hcl := cI_len l s
    have hge : ∀ k : Nat, decide (Int.ofNat k ≥ 0) = true := fun k => by simp only [ge_iff_le, decide_eq_true_eq, Int.ofNat_eq_natCast]; omega
    have hb63 : ∀ k, Nat.blt (l.take k).length two63 = true := fun k => Nat.ble_eq_true_of_le (by rw [List.length_take]; unfold two63 at *; omega)
    have q3 : ∀ k, k < l.length → findPG ([.rsl 7 (List.take (k - 0) (List.drop 0 (l.map ptC.enc))) false, strA (atP l k).2.1] : List AV) = some (AV.v (.int .i64 (oI (nxt l k)))) := fun k hk => by
      rw [spFull, ← nxt_find hk]
      exact spFindP _ (hb63 k)
    have h := LoopRun.builds (C := CS P6) (nt := 30) (rd := false) (c := loopOf (CS P6) 25 0) strC.enc (fun m => closedStr m) (fun k : Nat => (atP l k).1) 28 1 [0, 5, 6] 30 (fun j a => [.rsl 7 (l.map ptC.enc) false, a, intA (oI (orb l s j))]) (cI l s) (.exit 0) 5 (by simp)
      (fun j k hx => by
        rw [cI_at] at hx
        have hk := orb_lt hx
        have hn : orb l s (j + 1) = nxt l k := by show (orb l s j).bind (nxt l) = _; rw [hx]; rfl
        have hg : (l.map ptC.enc)[k]? = some (ptC.enc (atP l k)) := get_map _ (atP_get hk)
        rw [hx, hn]
        exact P6_ok.rndN (r25a (l.map ptC.enc) ((l.take k).map ptC.enc) k (oI (nxt l k)) (atP l k).1 (atP l k).2.1 (atP l k).2.2.1 (atP l k).2.2.2.1 (atP l k).2.2.2.2.1 (atP l k).2.2.2.2.2.1 ((atP l k).co.map ivC.enc))
          ⟨hge k, hg, ⟨Nat.zero_le _, by rw [List.length_map]; omega⟩, hg, ⟨spFull, q3 k hk⟩, ⟨closedStr [(atP l k).1], trivial⟩, rfl⟩)
      (fun j k rs hx hrs => by
        have hjl := lt_len hx
        rw [cI_at] at hx
        have hk := orb_lt hx
        have hn : orb l s (j + 1) = nxt l k := by show (orb l s j).bind (nxt l) = _; rw [hx]; rfl
        have hg : (l.map ptC.enc)[k]? = some (ptC.enc (atP l k)) := get_map _ (atP_get hk)
        have hlen : (rs.map strC.enc ++ [strC.enc (atP l k).1]).length ≤ 1000001 := by rw [List.length_append, List.length_map]; unfold lim at hlim; simp; omega
        rw [hx, hn]
        exact P6_ok.rndN (r25b (l.map ptC.enc) ((l.take k).map ptC.enc) k (oI (nxt l k)) (rs.map strC.enc) (rs.map strC.enc).length (atP l k).1 (atP l k).2.1 (atP l k).2.2.1 (atP l k).2.2.2.1 (atP l k).2.2.2.2.1 (atP l k).2.2.2.2.2.1 ((atP l k).co.map ivC.enc))
          ⟨hge k, hg, ⟨rfl, rfl, rfl, by show (rs.map strC.enc ++ [strC.enc (atP l k).1]).length * 16 ≤ _; omega, by show (rs.map strC.enc ++ [strC.enc (atP l k).1]).length ≤ _; omega, by decide⟩, ⟨Nat.zero_le _, by rw [List.length_map]; omega⟩, hg, ⟨spFull, q3 k hk⟩, ⟨(closedStr rs).append (closedStr [(atP l k).1]), trivial⟩, rfl⟩)
      (by rw [cI_end]; exact P6_ok.rndX (r25xa (l.map ptC.enc) (-1)) ⟨rfl, trivial, rfl⟩)
      (fun rs => by rw [cI_end]; exact P6_ok.rndX (r25xb (l.map ptC.enc) (-1) (rs.map strC.enc) (rs.map strC.enc).length) ⟨rfl, ⟨closedStr rs, trivial⟩, rfl⟩)
    have f24 := spFindP (l := l) s (Nat.ble_eq_true_of_le hl)
    rw [findP_o] at f24
    exact P6_ok.tr (t25 (l.map ptC.enc) (((cI l s).map fun k => (atP l k).1).map strC.enc) s (oI (findIx s (nms l) 0))) ⟨⟨rfl, f24⟩, ⟨trivial, trivial, h.says⟩, rfl⟩
/-! ### The index of each name -/
def byG : List AV → Option AV := sp1 ptsC fun l => bif decide (partsM l = 0) then some (.rmp ((nms l).map strA) (idxA l.length)) else none
theorem parts_len {l : List Pt} (h : partsM l = 0) : 1 ≤ l.length ∧ l.length ≤ 16 := by
  have h1 := (parts_at h).1
  unfold manyM at h1
  obtain ⟨a, h1⟩ := (firstZ _ _).1 h1
  obtain ⟨b, _⟩ := (firstZ _ _).1 h1
  have a := whenZ (by decide) a
  have b := whenZ (by decide) b
  simp only [beq_eq_false_iff_ne, ne_eq, Int.ofNat_eq_natCast, gt_iff_lt, decide_eq_false_iff_not] at a b
  omega
theorem h127 : Holds 127 byG := holds1 fun l r hr => by
  cases hb : decide (partsM l = 0) with
  | false => simp [hb] at hr
  | true =>
    simp only [hb, cond_true, Option.some.injEq] at hr; subst hr
    have h0 : partsM l = 0 := of_decide_eq_true hb
    have hlen := parts_len h0
    have hl : l.length < two63 := Nat.lt_of_le_of_lt hlen.2 (by decide)
    have e := e_pt l
    have h := LoopRun.find (C := CS P6) (p := 0) (nt := 20) (rd := false) (c := loopOf (CS P6) 127 0) (fun _ (_ : Pt) => (none : Option Unit))
      (fun i => mkSt [3, 7, 8, 9] [6] 20 [.mp 6 0, .rsl 7 (l.map ptC.enc) false, intA (Int.ofNat l.length), intA (Int.ofNat i)] [(false, .map ((nms (l.take i)).map strA) (idxA i))])
      (fun _ => mkSt [] [] 0 [] []) (mkSt [3] [6] 20 [.mp 6 0] [(false, .map ((nms l).map strA) (idxA l.length))]) (.exit 0) (fun _ => .ret) l (by simp) (by simp)
      (fun i x hx => by
        have hi := lt_len hx
        have u : mapUpd (CS P6) 196 ((nms (l.take i)).map strA) (idxA i) (AV.v (.string x.1)) (AV.v (.int .i64 (Int.ofNat i))) = some ((nms (l.take (i + 1))).map strA, idxA (i + 1)) := by
          refine ((map196 P6).add (vs := idxA i) (v := intA (Int.ofNat i)) (goodP h0 hx).fresh).trans ?_
          have ht : nms (l.take (i + 1)) = nms (l.take i) ++ [x.1] := take_succ_map (fun x : Pt => x.1) hx
          unfold idxA
          rw [ht, List.range_succ, List.map_append, List.map_append]; rfl
        have hr := r127 (l.map ptC.enc) ((nms (l.take i)).map strA) (idxA i) ((nms (l.take (i + 1))).map strA) (idxA (i + 1)) l.length i x.1 x.2.1 x.2.2.1 x.2.2.2.1 x.2.2.2.2.1 x.2.2.2.2.2.1 (x.co.map ivC.enc)
        rw [wrap_ix hi hl] at hr
        exact P6_ok.rndN hr ⟨lt_of hi, get_map _ hx, u, ⟨⟨closedStr _, closedIdx _⟩, trivial⟩, rfl⟩)
      (by
        rw [List.take_length]
        exact P6_ok.rndX (r127x (l.map ptC.enc) ((nms l).map strA) (idxA l.length) l.length l.length) ⟨lt_self _, ⟨⟨closedStr _, closedIdx _⟩, trivial⟩, rfl⟩)
    rw [srch_none, ← e] at h
    exact P6_ok.tr (t127 (l.map ptC.enc) ((nms l).map strA) (idxA l.length)) ⟨⟨⟨⟨ClosedL.nil, ClosedL.nil⟩, trivial⟩, ⟨⟨closedStr _, closedIdx _⟩, trivial⟩, h.says⟩, ⟨closedStr _, closedIdx _⟩, rfl⟩
def namesG : List AV → Option AV := sp1 ptsC fun l => bif Nat.ble l.length lim then some (slA strC 1 (nms l)) else none
theorem h96 : Holds 96 namesG := holds1 fun l r hr => by
  cases hb : Nat.ble l.length lim with
  | false => simp [hb] at hr
  | true =>
    simp only [hb, cond_true, Option.some.injEq] at hr; subst hr
    have f := sp2_at (A := ptsC) (B := fnC 174) (F := fun l (_ : Unit) => bif Nat.ble l.length lim then some (slA strC 1 (l.map fun p : Pt => p.1)) else none) l ()
    rw [hb] at f
    exact P6_ok.tr (t96 (l.map ptC.enc) ((nms l).map strC.enc)) ⟨⟨rfl, f⟩, rfl⟩
def P7 : Specs := (((P6.set 25 chainG).set 127 byG).set 96 namesG)
theorem P7_ok : Ok P7 := (((P6_ok.set h25).set h127).set h96)
end Go.Vm.S3

namespace Go.Vm.S3
open Go.Proofs Go.RowKit
set_option maxRecDepth 100000 in
theorem t95 (es ks vs : List AV) (s : ByteArray) (i e : Int) (b q : Bool) : evTreeD (CS P7) 60 95 [.rsl 7 es false, strA s] [.sp [.rsl 7 es false] (.rmp ks vs), .chk [.tup [intA i, boolA b]], .sp [boolA q, intA 10] (intA e)] =
    (.need (([.rsl 7 es false] : List AV) = ([.rsl 7 es false] : List AV) ∧ (Cx.spec (CS P7) 127 ([.rsl 7 es false] : List AV)) = (some (AV.rmp ks vs))) (.need ((alookup (CS P7) Tr.leaf 196 (AV.rmp ks vs) (AV.v (.string s)) true) = (some (AV.tup [.v (.int .i64 i), .v (.bool b)]))) (.need (([.v (.bool !b), .v (.int .i64 10)] : List AV) = ([.v (.bool q), .v (.int .i64 10)] : List AV) ∧ (Cx.spec (CS P7) 109 ([.v (.bool q), .v (.int .i64 10)] : List AV)) = (some (AV.v (.int .i64 e)))) (.done (some (.tup [.v (.int .i64 i), .v (.int .i64 e)])))))) := by kernel_rfl
/-! ### A part, or the error -/
theorem lookP (S : Specs) (l : List Pt) (s : ByteArray) (b : Bool) : alookup (CS S) .leaf 196 (.rmp ((nms l).map strA) (idxA l.length)) (strA s) b = some (bif b then .tup [intA (Int.ofNat ((findIx s (nms l) 0).getD 0)), boolA (findIx s (nms l) 0).isSome] else intA (Int.ofNat ((findIx s (nms l) 0).getD 0))) := by
  rw [(map196 S).look .leaf (nms l) (idxA l.length) s b]
  cases hf : findIx s (nms l) 0 with
  | none => cases b <;> rfl
  | some j =>
    have hj := find_lt hf
    have : (idxA l.length)[j]? = some (intA (Int.ofNat j)) := by
      unfold idxA
      rw [List.getElem?_map, List.getElem?_range hj]; rfl
    simp only [this]
    cases b <;> rfl
theorem spBy {l : List Pt} (h : partsM l = 0) : byG [slA ptC 7 l] = some (.rmp ((nms l).map strA) (idxA l.length)) := by
  have := sp1_at (A := ptsC) (F := fun l => bif decide (partsM l = 0) then some (.rmp ((nms l).map strA) (idxA l.length)) else none) l
  rw [decide_eq_true h] at this; exact this
def find95 (l : List Pt) (s : ByteArray) : AV := .tup [intA (Int.ofNat ((findIx s (nms l) 0).getD 0)), intA (whenM (!hasP l s) 10)]
def find95G : List AV → Option AV := sp2 ptsC strC fun l s => bif decide (partsM l = 0) then some (find95 l s) else none
theorem h95 : Holds 95 find95G := holds2 fun l s r hr => by
  cases hb : decide (partsM l = 0) with
  | false => simp [hb] at hr
  | true =>
    simp only [hb, cond_true, Option.some.injEq] at hr; subst hr
    have h0 : partsM l = 0 := of_decide_eq_true hb
    have hk := lookP P7 l s true
    rw [cond_true, ← hasP_ix] at hk
    exact P7_ok.tr (t95 (l.map ptC.enc) ((nms l).map strA) (idxA l.length) s (Int.ofNat ((findIx s (nms l) 0).getD 0)) _ (hasP l s) (!hasP l s)) ⟨⟨rfl, spBy h0⟩, hk, ⟨rfl, spWhen _ 10⟩, rfl⟩
def P8 : Specs := (P7.set 95 find95G)
theorem P8_ok : Ok P8 := (P7_ok.set h95)
end Go.Vm.S3

namespace Go.Vm.S3
open Go.Proofs Go.RowKit
abbrev LB15 (C : Cx) : Bool × Blk := (false, .loop 175 39 13 (mkT [2] [.ptr 41 2 0] .leaf) [7] (rangeOf C 175 7).1 (rangeOf C 175 7).2 none)
abbrev bb15 (C : Cx) (es : List AV) (t out : AV) : List (Bool × Blk) := [(false, .box [.rsl 7 es false]), (false, .box [t]), (false, .box [out]), LB15 C]
end Go.Vm.S3

namespace Go.Vm.S3
open Go.Proofs Go.RowKit
set_option maxRecDepth 100000 in
theorem r15a (es ks vs : List AV) (t : ByteArray) (n : Nat) (a b : ByteArray) (m x y z : Int) (cs : List AV) : roundD (CS P8) 60 4 176 52 22 74 false (loopOf (CS P8) 176 0) [0, 1, 2, 4] [30, 31, 41, 46] [0, 1, 2, 4] [30, 31, 41, 46, 50] [] [30, 31, 41, 46] [.yld 46 3, .ptr 30 0 0, .ptr 31 1 0, .rmp ks vs] (bb15 (CS P8) es (strA t) nilS) [.as 9 true, .chk [intA (Int.ofNat n)], .chk [.agg [strA a, strA b, intA m, intA x, intA y, intA z, .rsl 2 cs false]]] =
    (.need ((!(t.toList == (ByteArray.mk #[]).toList)) = true) (.need ((alookup (CS P8) Tr.leaf 196 (AV.rmp ks vs) (AV.v (.string t)) false) = (some (AV.v (.int .i64 (Int.ofNat n))))) (.need (es[n]? = (some (AV.agg [.v (.string a), .v (.string b), .v (.int .i64 m), .v (.int .i64 x), .v (.int .i64 y), .v (.int .i64 z), .rsl 2 cs false]))) (.need (EntClosed [(false, .box [.rsl 7 es false]), (false, .box [.v (.string b)]), (false, .box [.sl 50 4 7 0 1]), LB15 (CS P8), (false, .arr 7 [.agg [.v (.string a), .v (.string b), .v (.int .i64 m), .v (.int .i64 x), .v (.int .i64 y), .v (.int .i64 z), .rsl 2 cs false]] false)]) (.done (some ((.nrm, [.yld 46 3, .ptr 30 0 0, .ptr 31 1 0, .rmp ks vs], [(false, .box [.rsl 7 es false]), (false, .box [.v (.string b)]), (false, .box [.sl 50 4 7 0 1]), LB15 (CS P8), (false, .arr 7 [.agg [.v (.string a), .v (.string b), .v (.int .i64 m), .v (.int .i64 x), .v (.int .i64 y), .v (.int .i64 z), .rsl 2 cs false]] false)])))))))) := by kernel_rfl
set_option maxRecDepth 100000 in
theorem r15b (es ks vs rs : List AV) (t : ByteArray) (n k : Nat) (a b : ByteArray) (m x y z : Int) (cs : List AV) : roundD (CS P8) 60 4 176 52 22 74 false (loopOf (CS P8) 176 0) [0, 1, 2, 4] [30, 31, 41, 46, 50] [0, 1, 2, 4] [30, 31, 41, 46, 50] [] [30, 31, 41, 46, 50] [.yld 46 3, .ptr 30 0 0, .ptr 31 1 0, .rmp ks vs] (bb15 (CS P8) es (strA t) (.sl 50 4 7 0 k) ++ [(false, .arr 7 rs false)]) [.as 9 true, .chk [intA (Int.ofNat n)], .chk [.agg [strA a, strA b, intA m, intA x, intA y, intA z, .rsl 2 cs false]], .chk rs] =
    (.need ((!(t.toList == (ByteArray.mk #[]).toList)) = true) (.need ((alookup (CS P8) Tr.leaf 196 (AV.rmp ks vs) (AV.v (.string t)) false) = (some (AV.v (.int .i64 (Int.ofNat n))))) (.need (es[n]? = (some (AV.agg [.v (.string a), .v (.string b), .v (.int .i64 m), .v (.int .i64 x), .v (.int .i64 y), .v (.int .i64 z), .rsl 2 cs false]))) (.need (k = rs.length ∧ true = true ∧ 7 = 7 ∧ (rs ++ ([.agg [.v (.string a), .v (.string b), .v (.int .i64 m), .v (.int .i64 x), .v (.int .i64 y), .v (.int .i64 z), .rsl 2 cs false]] : List AV)).length * 88 ≤ 35184372088832 ∧ (rs ++ ([.agg [.v (.string a), .v (.string b), .v (.int .i64 m), .v (.int .i64 x), .v (.int .i64 y), .v (.int .i64 z), .rsl 2 cs false]] : List AV)).length ≤ 35184372088832 ∧ 88 ≠ 0) (.need (EntClosed [(false, .box [.rsl 7 es false]), (false, .box [.v (.string b)]), (false, .box [.sl 50 4 7 0 ((rs ++ ([.agg [.v (.string a), .v (.string b), .v (.int .i64 m), .v (.int .i64 x), .v (.int .i64 y), .v (.int .i64 z), .rsl 2 cs false]] : List AV)).length)]), LB15 (CS P8), (false, .arr 7 (rs ++ ([.agg [.v (.string a), .v (.string b), .v (.int .i64 m), .v (.int .i64 x), .v (.int .i64 y), .v (.int .i64 z), .rsl 2 cs false]] : List AV)) false)]) (.done (some ((.nrm, [.yld 46 3, .ptr 30 0 0, .ptr 31 1 0, .rmp ks vs], [(false, .box [.rsl 7 es false]), (false, .box [.v (.string b)]), (false, .box [.sl 50 4 7 0 ((rs ++ ([.agg [.v (.string a), .v (.string b), .v (.int .i64 m), .v (.int .i64 x), .v (.int .i64 y), .v (.int .i64 z), .rsl 2 cs false]] : List AV)).length)]), LB15 (CS P8), (false, .arr 7 (rs ++ ([.agg [.v (.string a), .v (.string b), .v (.int .i64 m), .v (.int .i64 x), .v (.int .i64 y), .v (.int .i64 z), .rsl 2 cs false]] : List AV)) false)]))))))))) := by kernel_rfl
set_option maxRecDepth 100000 in
theorem r15xa (es ks vs : List AV) (t : ByteArray) : roundD (CS P8) 60 4 176 52 22 74 false (loopOf (CS P8) 176 0) [0, 1, 2, 4] [30, 31, 41, 46] [0, 1, 2, 4] [30, 31, 41, 46] [] [30, 31, 41, 46] [.yld 46 3, .ptr 30 0 0, .ptr 31 1 0, .rmp ks vs] (bb15 (CS P8) es (strA t) nilS) [.as 9 false] =
    (.need ((!(t.toList == (ByteArray.mk #[]).toList)) = false) (.need (EntClosed [(false, .box [.rsl 7 es false]), (false, .box [.v (.string t)]), (false, .box [.v (.slice none 0 0)]), LB15 (CS P8)]) (.done (some (((.exit 0), [], [(false, .box [.rsl 7 es false]), (false, .box [.v (.string t)]), (false, .box [.v (.slice none 0 0)]), LB15 (CS P8)])))))) := by kernel_rfl
set_option maxRecDepth 100000 in
theorem r15xb (es ks vs rs : List AV) (t : ByteArray) (k : Nat) : roundD (CS P8) 60 4 176 52 22 74 false (loopOf (CS P8) 176 0) [0, 1, 2, 4] [30, 31, 41, 46, 50] [0, 1, 2, 4] [30, 31, 41, 46, 50] [] [30, 31, 41, 46, 50] [.yld 46 3, .ptr 30 0 0, .ptr 31 1 0, .rmp ks vs] (bb15 (CS P8) es (strA t) (.sl 50 4 7 0 k) ++ [(false, .arr 7 rs false)]) [.as 9 false] =
    (.need ((!(t.toList == (ByteArray.mk #[]).toList)) = false) (.need (EntClosed [(false, .box [.rsl 7 es false]), (false, .box [.v (.string t)]), (false, .box [.sl 50 4 7 0 k]), LB15 (CS P8), (false, .arr 7 rs false)]) (.done (some (((.exit 0), [], [(false, .box [.rsl 7 es false]), (false, .box [.v (.string t)]), (false, .box [.sl 50 4 7 0 k]), LB15 (CS P8), (false, .arr 7 rs false)])))))) := by kernel_rfl
set_option maxRecDepth 100000 in
theorem t100a (es : List AV) (s : ByteArray) (e : Int) : evTreeD (CS P8) 60 100 [.rsl 7 es false, strA s] [.sp [.rsl 7 es false] (intA e), .as 11 true] =
    (.need (([.rsl 7 es false] : List AV) = ([.rsl 7 es false] : List AV) ∧ (Cx.spec (CS P8) 30 ([.rsl 7 es false] : List AV)) = (some (AV.v (.int .i64 e)))) (.need ((e != 0) = true) (.done (some (.v (.int .i64 e)))))) := by kernel_rfl
set_option maxRecDepth 100000 in
theorem t100b (es : List AV) (s : ByteArray) (e i e2 : Int) : evTreeD (CS P8) 60 100 [.rsl 7 es false, strA s] [.sp [.rsl 7 es false] (intA e), .as 11 false, .sp [.rsl 7 es false, strA s] (.tup [intA i, intA e2])] =
    (.need (([.rsl 7 es false] : List AV) = ([.rsl 7 es false] : List AV) ∧ (Cx.spec (CS P8) 30 ([.rsl 7 es false] : List AV)) = (some (AV.v (.int .i64 e)))) (.need ((e != 0) = false) (.need (([.rsl 7 es false, .v (.string s)] : List AV) = ([.rsl 7 es false, .v (.string s)] : List AV) ∧ (Cx.spec (CS P8) 95 ([.rsl 7 es false, .v (.string s)] : List AV)) = (some (AV.tup [.v (.int .i64 i), .v (.int .i64 e2)]))) (.done (some (.v (.int .i64 e2))))))) := by kernel_rfl
set_option maxRecDepth 100000 in
theorem t15a (es : List AV) (s : ByteArray) (e : Int) : evTreeD (CS P8) 60 15 [.rsl 7 es false, strA s] [.sp [.rsl 7 es false] (intA e), .as 12 true] =
    (.need (([.rsl 7 es false] : List AV) = ([.rsl 7 es false] : List AV) ∧ (Cx.spec (CS P8) 30 ([.rsl 7 es false] : List AV)) = (some (AV.v (.int .i64 e)))) (.need ((e != 0) = true) (.done (some (.tup [.v (.slice none 0 0), .v (.int .i64 e)]))))) := by kernel_rfl
set_option maxRecDepth 100000 in
theorem t15b (es : List AV) (s : ByteArray) (e i e2 : Int) : evTreeD (CS P8) 60 15 [.rsl 7 es false, strA s] [.sp [.rsl 7 es false] (intA e), .as 12 false, .sp [.rsl 7 es false, strA s] (.tup [intA i, intA e2]), .as 21 true] =
    (.need (([.rsl 7 es false] : List AV) = ([.rsl 7 es false] : List AV) ∧ (Cx.spec (CS P8) 30 ([.rsl 7 es false] : List AV)) = (some (AV.v (.int .i64 e)))) (.need ((e != 0) = false) (.need (([.rsl 7 es false, .v (.string s)] : List AV) = ([.rsl 7 es false, .v (.string s)] : List AV) ∧ (Cx.spec (CS P8) 95 ([.rsl 7 es false, .v (.string s)] : List AV)) = (some (AV.tup [.v (.int .i64 i), .v (.int .i64 e2)]))) (.need ((e2 != 0) = true) (.done (some (.tup [.v (.slice none 0 0), .v (.int .i64 e2)]))))))) := by kernel_rfl
set_option maxRecDepth 100000 in
theorem t15c (es ks vs rs ns : List AV) (s : ByteArray) (e i e2 : Int) : evTreeD (CS P8) 60 15 [.rsl 7 es false, strA s] [.sp [.rsl 7 es false] (intA e), .as 12 false, .sp [.rsl 7 es false, strA s] (.tup [intA i, intA e2]), .as 21 false, .sp [.rsl 7 es false] (.rmp ks vs), .loop 4 [0, 1, 2, 4] [30, 31, 41, 46] [] [30, 31, 41, 46] (.exit 0) [] (bb15 (CS P8) es .bad (.rsl 7 rs false)), .sp [.rsl 7 rs false] (.rsl 1 ns false)] =
    (.need (([.rsl 7 es false] : List AV) = ([.rsl 7 es false] : List AV) ∧ (Cx.spec (CS P8) 30 ([.rsl 7 es false] : List AV)) = (some (AV.v (.int .i64 e)))) (.need ((e != 0) = false) (.need (([.rsl 7 es false, .v (.string s)] : List AV) = ([.rsl 7 es false, .v (.string s)] : List AV) ∧ (Cx.spec (CS P8) 95 ([.rsl 7 es false, .v (.string s)] : List AV)) = (some (AV.tup [.v (.int .i64 i), .v (.int .i64 e2)]))) (.need ((e2 != 0) = false) (.need (([.rsl 7 es false] : List AV) = ([.rsl 7 es false] : List AV) ∧ (Cx.spec (CS P8) 127 ([.rsl 7 es false] : List AV)) = (some (AV.rmp ks vs))) (.need (EntClosed [(false, .box [.rsl 7 es false]), (false, .box [.v (.string s)]), (false, .box [.v (.slice none 0 0)]), LB15 (CS P8)] ∧ EntClosed [(false, .box [.rsl 7 es false]), (false, .box [.bad]), (false, .box [.rsl 7 rs false]), LB15 (CS P8)] ∧ Says (CS P8) 4 22 false (.loop (loopOf (CS P8) 176 0)) (mkSt [0, 1, 2, 4] [30, 31, 41, 46] 74 [.yld 46 3, .ptr 30 0 0, .ptr 31 1 0, .rmp ks vs] [(false, .box [.rsl 7 es false]), (false, .box [.v (.string s)]), (false, .box [.v (.slice none 0 0)]), LB15 (CS P8)]) (.exit 0) (mkSt [] [30, 31, 41, 46] 74 [] [(false, .box [.rsl 7 es false]), (false, .box [.bad]), (false, .box [.rsl 7 rs false]), LB15 (CS P8)])) (.need (([.rsl 7 rs false] : List AV) = ([.rsl 7 rs false] : List AV) ∧ (Cx.spec (CS P8) 96 ([.rsl 7 rs false] : List AV)) = (some (AV.rsl 1 ns false))) (.done (some (.tup [.rsl 1 ns false, .v (.int .i64 0)])))))))))) := by kernel_rfl
/-! ### Names and where they stand -/
theorem bseq_eq {a b : ByteArray} (h : bseq a b = true) : a = b := by
  unfold bseq at h
  have h : a.toList = b.toList := by simpa using h
  rw [ByteArray.toList_eq, ByteArray.toList_eq] at h
  cases a; cases b
  congr 1
  exact Array.toList_inj.1 h
theorem findIx_app (s : ByteArray) : ∀ (a b : List ByteArray) (i : Nat), findIx s (a ++ b) i = match findIx s a i with | some j => some j | none => findIx s b (i + a.length)
  | [], b, i => by simp [findIx]
  | x :: a, b, i => by
    rw [List.cons_append, findIx, findIx]
    cases h : bseq s x with
    | true => rfl
    | false =>
      simp only [cond_false]
      rw [findIx_app s a b (i + 1), List.length_cons, show i + 1 + a.length = i + (a.length + 1) by omega]
theorem findIx_name {s : ByteArray} : ∀ {l : List ByteArray} {i k : Nat}, findIx s l i = some k → l[k - i]? = some s
  | [], i, k, h => by simp [findIx] at h
  | x :: l, i, k, h => by
    rw [findIx] at h
    cases hb : bseq s x with
    | true =>
      rw [hb] at h
      simp only [cond_true, Option.some.injEq] at h
      subst h
      rw [Nat.sub_self, bseq_eq hb]; rfl
    | false =>
      rw [hb] at h
      simp only [cond_false] at h
      have hk := (findIx_bound h).1
      have := findIx_name h
      rw [show k - i = (k - (i + 1)) + 1 by omega, List.getElem?_cons_succ]
      exact this
theorem find_name {l : List Pt} {s : ByteArray} {k : Nat} (h : findIx s (nms l) 0 = some k) : (atP l k).1 = s := by
  have h1 := findIx_name h
  rw [Nat.sub_zero, List.getElem?_map, atP_get (find_lt h)] at h1
  simpa using h1
theorem bseq_self (a : ByteArray) : bseq a a = true := by unfold bseq; simp
/-- The parts of a valid list have names of their own. -/
theorem find_own {l : List Pt} (h : partsM l = 0) {k : Nat} (hk : k < l.length) : findIx (atP l k).1 (nms l) 0 = some k := by
  have hg := atP_get hk
  have hf := (goodP h hg).fresh
  have hd : l = l.take k ++ atP l k :: l.drop (k + 1) := by
    have h1 := List.drop_eq_getElem_cons hk
    have h2 : l[k] = atP l k := by
      have := List.getElem?_eq_getElem hk
      rw [hg] at this
      simpa using this.symm
    rw [← h2, ← h1, List.take_append_drop]
  have hn : nms l = nms (l.take k) ++ (atP l k).1 :: nms (l.drop (k + 1)) := by
    conv => lhs; rw [hd]
    unfold nms
    rw [List.map_append, List.map_cons]
  have hl : (nms (l.take k)).length = k := by rw [List.length_map, List.length_take]; omega
  rw [hn, findIx_app, hf]
  simp only
  rw [findIx, bseq_self, hl, Nat.zero_add]; rfl
theorem name_some {l : List Pt} (h : partsM l = 0) {k : Nat} (hk : k < l.length) : (!((atP l k).1.toList == (ByteArray.mk #[]).toList)) = true := by
  have hn := (goodP h (atP_get hk)).nm
  unfold isNameM at hn
  rw [Bool.and_eq_true] at hn
  rw [toList_nil]; exact hn.1
/-- The name of the part that a chain comes to. -/
def sO (l : List Pt) (s : ByteArray) (j : Nat) : ByteArray := match orb l s j with
  | some k => (atP l k).1
  | none => ⟨#[]⟩
theorem sO_zero {l : List Pt} {s : ByteArray} (h : hasP l s = true) : sO l s 0 = s := by
  rw [hasP_ix] at h
  unfold sO
  show (match findIx s (nms l) 0 with | some k => (atP l k).1 | none => ⟨#[]⟩) = s
  cases hf : findIx s (nms l) 0 with
  | none => rw [hf] at h; cases h
  | some k => exact find_name hf
theorem nil_eq {b : ByteArray} (h : nilB b = true) : b = ⟨#[]⟩ := bseq_eq (by unfold nilB at h; unfold bseq; simpa using h)
theorem sO_next {l : List Pt} (h0 : partsM l = 0) {s : ByteArray} {j k : Nat} (hk : orb l s j = some k) : sO l s (j + 1) = (atP l k).2.1 := by
  have hlt := orb_lt hk
  have hn : orb l s (j + 1) = nxt l k := by show (orb l s j).bind (nxt l) = _; rw [hk]; rfl
  unfold sO
  rw [hn]
  have hg := goodP h0 (atP_get hlt)
  have hx : nxt l k = findIx (atP l k).2.1 (nms (l.take k)) 0 := by unfold nxt; rw [atP_get hlt]
  cases hq : nxt l k with
  | none =>
    simp only
    rcases Nat.eq_zero_or_pos k with rfl | hp
    · exact (nil_eq (hg.root rfl)).symm
    · have := hg.up hp
      rw [← hx, hq] at this; cases this
  | some i =>
    simp only
    have hi := nxt_lt hq
    have h2 := find_name (l := l.take k) (hx.symm.trans hq)
    have h3 : atP (l.take k) i = atP l i := by
      unfold atP
      rw [List.getElem?_take_of_lt hi]
    rw [h3] at h2; exact h2
/-! ### The chain, collected -/
theorem weakBad (a : AV) : Weak a .bad := fun _ _ _ => by unfold Rep; trivial
theorem loop15 {l : List Pt} (h0 : partsM l = 0) {s : ByteArray} (hs : hasP l s = true) :
    LoopRun (CS P8) 4 22 false (loopOf (CS P8) 176 0) (mkSt [0, 1, 2, 4] [30, 31, 41, 46] 74 [.yld 46 3, .ptr 30 0 0, .ptr 31 1 0, .rmp ((nms l).map strA) (idxA l.length)] (bb15 (CS P8) (l.map ptC.enc) (strA s) nilS)) (.exit 0)
      (mkSt [] [30, 31, 41, 46] 74 [] (bb15 (CS P8) (l.map ptC.enc) .bad (.rsl 7 (((cI l s).map (atP l)).map ptC.enc) false))) := by
  have hlen := parts_len h0
  have hcl := cI_len l s
  have look : ∀ j k, orb l s j = some k → alookup (CS P8) Tr.leaf 196 (AV.rmp ((nms l).map strA) (idxA l.length)) (AV.v (.string (sO l s j))) false = some (AV.v (.int .i64 (Int.ofNat k))) := fun j k hk => by
    have h := lookP P8 l (sO l s j) false
    have hso : sO l s j = (atP l k).1 := by unfold sO; rw [hk]
    rw [hso, find_own h0 (orb_lt hk)] at h
    rw [hso]; exact h
  have hne : ∀ j k, orb l s j = some k → (!((sO l s j).toList == (ByteArray.mk #[]).toList)) = true := fun j k hk => by
    have hso : sO l s j = (atP l k).1 := by unfold sO; rw [hk]
    rw [hso]; exact name_some h0 (orb_lt hk)
  have hend : (!((sO l s (cI l s).length).toList == (ByteArray.mk #[]).toList)) = false := by
    have : sO l s (cI l s).length = ⟨#[]⟩ := by unfold sO; rw [cI_end]
    rw [this]; simp
  have wk : ∀ {a : AV}, All2 WeakB (bb15 (CS P8) (l.map ptC.enc) (strA (sO l s (cI l s).length)) a) (bb15 (CS P8) (l.map ptC.enc) .bad a) := fun {a} => .cons .rfl (.cons (.box (.cons (weakBad _) .nil)) (.cons .rfl (.cons .rfl .nil)))
  have h := LoopRun.buildsB (C := CS P8) (p := 4) (nt := 22) (rd := false) (c := loopOf (CS P8) 176 0) ptC.enc closedPt (atP l) 50 7 [0, 1, 2, 4] [30, 31, 41, 46] 74
    (fun _ _ => [.yld 46 3, .ptr 30 0 0, .ptr 31 1 0, .rmp ((nms l).map strA) (idxA l.length)]) (fun j a => bb15 (CS P8) (l.map ptC.enc) (strA (sO l s j)) a) (cI l s) (.exit 0) [] (fun _ => []) (fun a => bb15 (CS P8) (l.map ptC.enc) .bad a) (by simp) (by decide) (by decide) (fun _ => rfl)
    (fun _ _ _ => .nil)
    (fun es n hn => .cons (.box (.cons (FzS.cl rfl) .nil)) (.cons (.box (.cons FzS.bad .nil)) (.cons (.box (.cons (FzS.sl hn) .nil)) (.cons (.loop fun i x' hx => mkT_rel (R := FzS 4 7 es) (.cons (FzS.ptr (by decide)) .nil) [2] .leaf .leaf (fun i x' hx => by rw [Tr.get_leaf] at hx; cases hx) i x' hx) .nil))))
    .nil (.cons .rfl (.cons .rfl (.cons (.box (.cons Weak.nilSl .nil)) (.cons .rfl .nil))))
    (fun j k hx => by
      rw [cI_at] at hx
      have hk := orb_lt hx
      rw [sO_next h0 hx]
      exact P8_ok.rndN (r15a (l.map ptC.enc) ((nms l).map strA) (idxA l.length) (sO l s j) k (atP l k).1 (atP l k).2.1 (atP l k).2.2.1 (atP l k).2.2.2.1 (atP l k).2.2.2.2.1 (atP l k).2.2.2.2.2.1 ((atP l k).co.map ivC.enc))
        ⟨hne j k hx, look j k hx, get_map _ (atP_get hk), ⟨closedPt [atP l k], trivial⟩, rfl⟩)
    (fun j k rs hx hrs => by
      have hjl := lt_len hx
      rw [cI_at] at hx
      have hk := orb_lt hx
      have hl2 : (rs.map ptC.enc ++ [ptC.enc (atP l k)]).length ≤ 1001 := by rw [List.length_append, List.length_map]; simp; omega
      rw [sO_next h0 hx]
      exact P8_ok.rndN (r15b (l.map ptC.enc) ((nms l).map strA) (idxA l.length) (rs.map ptC.enc) (sO l s j) k (rs.map ptC.enc).length (atP l k).1 (atP l k).2.1 (atP l k).2.2.1 (atP l k).2.2.2.1 (atP l k).2.2.2.2.1 (atP l k).2.2.2.2.2.1 ((atP l k).co.map ivC.enc))
        ⟨hne j k hx, look j k hx, get_map _ (atP_get hk), ⟨rfl, rfl, rfl, by show (rs.map ptC.enc ++ [ptC.enc (atP l k)]).length * 88 ≤ _; omega, by show (rs.map ptC.enc ++ [ptC.enc (atP l k)]).length ≤ _; omega, by decide⟩, ⟨(closedPt rs).append (closedPt [atP l k]), trivial⟩, rfl⟩)
    (Says.weakG (P8_ok.rndX (r15xa (l.map ptC.enc) ((nms l).map strA) (idxA l.length) (sO l s (cI l s).length)) ⟨hend, trivial, rfl⟩) (by decide) .nil wk)
    (fun rs => Says.weakG (P8_ok.rndX (r15xb (l.map ptC.enc) ((nms l).map strA) (idxA l.length) (rs.map ptC.enc) (sO l s (cI l s).length) (rs.map ptC.enc).length) ⟨hend, ⟨closedPt rs, trivial⟩, rfl⟩) (by decide) .nil (.cons .rfl (.cons (.box (.cons (weakBad _) .nil)) (.cons .rfl (.cons .rfl (.cons .rfl .nil))))))
  rw [sO_zero hs] at h
  exact h
/-! ### checkPart, Chain -/
def cpM (l : List Pt) (s : ByteArray) : Int := bif partsM l != 0 then partsM l else whenM (!hasP l s) 10
def cpG : List AV → Option AV := sp2 ptsC strC fun l s => bif okPts l then some (intA (cpM l s)) else none
theorem spParts {l : List Pt} (h : okPts l = true) : partsG [slA ptC 7 l] = some (intA (partsM l)) := by
  have := sp1_at (A := ptsC) (F := fun l => bif okPts l then some (intA (partsM l)) else none) l
  rw [h] at this; exact this
theorem sp95 {l : List Pt} (h : partsM l = 0) (s : ByteArray) : find95G [slA ptC 7 l, strA s] = some (find95 l s) := by
  have := sp2_at (A := ptsC) (B := strC) (F := fun l s => bif decide (partsM l = 0) then some (find95 l s) else none) l s
  rw [decide_eq_true h] at this; exact this
theorem h100 : Holds 100 cpG := holds2 fun l s r hr => by
  cases hb : okPts l with
  | false => simp [hb] at hr
  | true =>
    simp only [hb, cond_true, Option.some.injEq] at hr; subst hr
    unfold cpM
    cases h : partsM l != 0 with
    | true => exact P8_ok.tr (t100a (l.map ptC.enc) s (partsM l)) ⟨⟨rfl, spParts hb⟩, h, rfl⟩
    | false =>
      have h0 : partsM l = 0 := by simpa using h
      exact P8_ok.tr (t100b (l.map ptC.enc) s (partsM l) (Int.ofNat ((findIx s (nms l) 0).getD 0)) (whenM (!hasP l s) 10)) ⟨⟨rfl, spParts hb⟩, h, ⟨rfl, sp95 h0 s⟩, rfl⟩
def chainN (l : List Pt) (s : ByteArray) : List ByteArray := (cI l s).map fun k => (atP l k).1
def chainR (l : List Pt) (s : ByteArray) : AV := bif cpM l s != 0 then .tup [nilS, intA (cpM l s)] else .tup [slA strC 1 (chainN l s), intA 0]
def chain15G : List AV → Option AV := sp2 ptsC strC fun l s => bif okPts l then some (chainR l s) else none
theorem h15 : Holds 15 chain15G := holds2 fun l s r hr => by
  cases hb : okPts l with
  | false => simp [hb] at hr
  | true =>
    simp only [hb, cond_true, Option.some.injEq] at hr; subst hr
    unfold chainR cpM
    cases h : partsM l != 0 with
    | true =>
      simp only [cond_true, h]
      exact P8_ok.tr (t15a (l.map ptC.enc) s (partsM l)) ⟨⟨rfl, spParts hb⟩, h, rfl⟩
    | false =>
      simp only [cond_false]
      have h0 : partsM l = 0 := by simpa using h
      cases hp : hasP l s with
      | false =>
        have f := sp95 h0 s
        unfold find95 at f
        rw [hp] at f
        exact P8_ok.tr (t15b (l.map ptC.enc) s (partsM l) (Int.ofNat ((findIx s (nms l) 0).getD 0)) (whenM true 10)) ⟨⟨rfl, spParts hb⟩, h, ⟨rfl, f⟩, rfl, rfl⟩
      | true =>
        have f := sp95 h0 s
        unfold find95 at f
        rw [hp] at f
        have hl := loop15 h0 hp
        have hlen := parts_len h0
        have hcl := cI_len l s
        have f96 : namesG [slA ptC 7 ((cI l s).map (atP l))] = some (slA strC 1 (chainN l s)) := by
          have := sp1_at (A := ptsC) (F := fun l => bif Nat.ble l.length lim then some (slA strC 1 (nms l)) else none) ((cI l s).map (atP l))
          rw [Nat.ble_eq_true_of_le (by rw [List.length_map]; unfold lim; omega)] at this
          rw [show nms ((cI l s).map (atP l)) = chainN l s by unfold nms chainN; rw [List.map_map]; rfl] at this
          exact this
        exact P8_ok.tr (t15c (l.map ptC.enc) ((nms l).map strA) (idxA l.length) (((cI l s).map (atP l)).map ptC.enc) ((chainN l s).map strC.enc) s (partsM l) (Int.ofNat ((findIx s (nms l) 0).getD 0)) (whenM false 10))
          ⟨⟨rfl, spParts hb⟩, h, ⟨rfl, f⟩, rfl, ⟨rfl, spBy h0⟩, ⟨trivial, trivial, hl.says⟩, ⟨rfl, f96⟩, rfl⟩
def P9 : Specs := ((P8.set 100 cpG).set 15 chain15G)
theorem P9_ok : Ok P9 := ((P8_ok.set h100).set h15)
end Go.Vm.S3
