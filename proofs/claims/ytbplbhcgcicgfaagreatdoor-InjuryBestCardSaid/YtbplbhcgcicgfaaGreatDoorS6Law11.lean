/- InjuryBest: the law's contract. -/
import Derived.Test.YtbplbhcgcicgfaaGreatDoorS6N1
import Derived.Test.YtbplbhcgcicgfaaGreatDoorS6Law13
namespace Go.Vm.S6
open Go.Proofs Go.RowKit
set_option maxRecDepth 100000 in
theorem t11e (es : List AV) (lo hi a b e1 e2 : Int) : evTreeD (CS B2) 60 11 [.rsl 1 es false, .agg [intA lo, intA hi], .agg [u8A a, u8A b]] [.sp [] (boolA true), .sp [.rsl 1 es false] (intA e1), .sp [.agg [intA lo, intA hi]] (intA e2), .as 55 true, .br [.sp [] (boolA true)] []] =
    (.need (([] : List AV) = ([] : List AV) ∧ (Cx.spec (CS B2) 16 ([] : List AV)) = (some (AV.v (.bool true)))) (bif decide (Int.ofNat es.length > 16) then (.need (([] : List AV) = ([] : List AV) ∧ (Cx.spec (CS B2) 16 ([] : List AV)) = (some (AV.v (.bool true)))) (.done (some (.v (.bool true))))) else (.need (([.rsl 1 es false] : List AV) = ([.rsl 1 es false] : List AV) ∧ (Cx.spec (CS B2) 22 ([.rsl 1 es false] : List AV)) = (some (AV.v (.int .i64 e1)))) (bif e1 != 0 then (.need (([] : List AV) = ([] : List AV) ∧ (Cx.spec (CS B2) 16 ([] : List AV)) = (some (AV.v (.bool true)))) (.done (some (.v (.bool true))))) else (.need (([.agg [.v (.int .i64 lo), .v (.int .i64 hi)]] : List AV) = ([.agg [.v (.int .i64 lo), .v (.int .i64 hi)]] : List AV) ∧ (Cx.spec (CS B2) 25 ([.agg [.v (.int .i64 lo), .v (.int .i64 hi)]] : List AV)) = (some (AV.v (.int .i64 e2)))) (bif e2 != 0 then (.need (true = true) (.need (([] : List AV) = ([] : List AV) ∧ (Cx.spec (CS B2) 16 ([] : List AV)) = (some (AV.v (.bool true)))) (.done (some (.v (.bool true)))))) else (.need ((decide (lo > Int.ofNat es.length)) = true) (.need (([] : List AV) = ([] : List AV) ∧ (Cx.spec (CS B2) 16 ([] : List AV)) = (some (AV.v (.bool true)))) (.done (some (.v (.bool true)))))))))))) := by kernel_rfl
def law11G : List AV → Option AV := sp3 intsC p2C u2C fun _ _ p => bif okU2 p then some (boolA true) else none
theorem cmp_ge {x y : Ra} (hx : RaB x) (hy : RaB y) (h : leR y x) : decide (cmpW x y ≥ 0) = true := by
  rw [cmpB hx hy, decide_eq_true_eq]
  have := cmpM_lt (a := x) (b := y)
  have h2 := not_ltR (a := x) (b := y)
  by_cases hc : cmpM x y < 0
  · exact absurd h (by rw [← h2]; exact fun hn => hn (this.1 hc))
  · omega
theorem foldl_max_bd : ∀ (l : List Int) (s b : Int), s ≤ b → (∀ x ∈ l, x ≤ b) → l.foldl max s ≤ b
  | [], _, _, h, _ => h
  | x :: r, s, b, h, k => foldl_max_bd r (max s x) b (by have := k x (by simp); omega) (fun y hy => k y (by simp [hy]))
theorem law11_pos {l : List Int} {lo hi : Nat} {p : P2} (hS : Ser l) (h16 : l.length ≤ 16) (hk : 1 ≤ lo ∧ lo ≤ hi ∧ hi ≤ 128) (hll : lo ≤ l.length) (ha : 0 ≤ p.1 ∧ p.1 ≤ 255) (hb : 0 ≤ p.2 ∧ p.2 ≤ 255) :
    Cmp 11 [slA intC 1 l, p2A (Int.ofNat lo, Int.ofNat hi), u2A p] (boolA true) := by
  have f16 : awakeG [] = some (boolA true) := rfl
  have hne := hS.1
  obtain ⟨a, b⟩ := p
  obtain ⟨a, rfl, ha2⟩ := nat_u8 ha
  obtain ⟨b, rfl, hb2⟩ := nat_u8 hb
  obtain ⟨A, B, eB, g20, hbest, hlex⟩ := spBest hS hk hll
  have hAB := mem_wins.1 hbest.mem
  have hw : A < B ∧ B ≤ l.length := by omega
  -- a greater integer
  have hmod : a % l.length < l.length := Nat.mod_lt _ (by omega)
  generalize hr' : a % l.length = r at hmod
  obtain ⟨x, hx⟩ : ∃ x, l[r]? = some x := ⟨_, List.getElem?_eq_getElem hmod⟩
  have hxb := hS.2.2 x (List.mem_of_getElem? hx)
  have wb : IntKind.i64.wrap (Int.ofNat b) = Int.ofNat b := wrapN b (by unfold two63; omega)
  have wxb : IntKind.i64.wrap (x + Int.ofNat b) = x + Int.ofNat b := wrap_in (by simp only [Int.ofNat_eq_natCast]; omega) (by simp only [Int.ofNat_eq_natCast]; omega)
  have hv : x ≤ (if x + Int.ofNat b < 16384 then x + Int.ofNat b else 16384) ∧ (if x + Int.ofNat b < 16384 then x + Int.ofNat b else 16384) ≤ 16384 := by
    simp only [Int.ofNat_eq_natCast]; split <;> omega
  generalize hV : (if x + Int.ofNat b < 16384 then x + Int.ofNat b else 16384) = v at hv
  have hge : geL l (l.set r v) := geL_set _ _ _ fun y hy => by rw [hx] at hy; simp only [Option.some.injEq] at hy; omega
  have hSm : Ser (l.set r v) := by
    refine ⟨by rw [List.length_set]; exact hS.1, by rw [List.length_set]; exact hS.2.1, fun y hy => ?_⟩
    rcases List.mem_or_eq_of_mem_set hy with h | h
    · exact hS.2.2 y h
    · subst h; omega
  have hml : (l.set r v).length = l.length := List.length_set
  obtain ⟨c, d, eM, g20m, hbm, _⟩ := spBest hSm hk (by rw [hml]; exact hll)
  obtain ⟨c1, d1, eW, g20w, hbw, _⟩ := spBest hS (lo := 1) (hi := hi) ⟨by omega, by omega, hk.2.2⟩ (by omega)
  have hSt : Ser l.reverse := ⟨by rw [List.length_reverse]; exact hS.1, by rw [List.length_reverse]; exact hS.2.1, fun y hy => hS.2.2 y (List.mem_reverse.1 hy)⟩
  obtain ⟨c2, d2, eT, g20t, hbt, _⟩ := spBest hSt hk (by rw [List.length_reverse]; exact hll)
  have wM := mem_wins.1 hbm.mem
  have wW := mem_wins.1 hbw.mem
  rw [hml] at wM
  have hlim : Nat.ble l.length lim = true := Nat.ble_eq_true_of_le (by unfold lim; omega)
  have hlimM : Nat.ble (l.set r v).length lim = true := by rw [hml]; exact hlim
  have hlimT : Nat.ble l.reverse.length lim = true := by rw [List.length_reverse]; exact hlim
  have f19 := specOwn hlim
  have f19m := specOwn hlimM
  have f19t := specOwn hlimT
  have fwin : win24G [intA (Int.ofNat l.length), p2A (Int.ofNat A, Int.ofNat B)] = some (intA 0) := by
    have := sp2_at (A := intC) (B := p2C) (F := fun n s => some (intA (winErr n s))) (Int.ofNat l.length) (Int.ofNat A, Int.ofNat B)
    rw [winW hw] at this
    exact this
  have f26 := spRat (wthM l A B)
  rw [ratOk hS hw] at f26
  have f21 := spChk hS hk eB hw
  rw [off_eq] at f21
  have k0 := best_out (p := (Int.ofNat a, Int.ofNat b)) hS hk eB hbest hlex
  have kT := best_turn (l := l) (lo := lo) (hi := hi) (w := wthM l A B) (g := wthM (l.set r v) c d) (d := wthM l c1 d1) h16 (by omega)
  have kM := best_max (l := l) (w := wthM l A B) (g := wthM (l.set r v) c d) (d := wthM l c1 d1) (v := wthM l.reverse c2 d2) h16
  have eSame : wthM l.reverse c2 d2 = wthM l A B := best_rev hk.1 hbest hbt
  have bM : RaB (wthM (l.set r v) c d) := RaB_of hSm (by rw [hml]; omega)
  have bW : RaB (wthM l c1 d1) := RaB_of hS (by omega)
  have bA : RaB (wthM l A B) := RaB_of hS hw
  have f26m := spRat (wthM (l.set r v) c d)
  rw [ratOk hSm (by rw [hml]; omega)] at f26m
  have f26w := spRat (wthM l c1 d1)
  rw [ratOk hS (by omega)] at f26w
  have n309 := cmp_ge bM bA (best_ge hk.1 hge hbest hbm)
  have n315 := cmp_ge bW bA (best_wide hk.1 hbest hbw)
  have hmost := best_most (l := l) (by omega) hbw
  have hmx := foldl_max l 0
  have hmx2 : l.foldl max 0 ≤ 16384 := foldl_max_bd _ _ _ (by omega) fun y hy => (hS.2.2 y hy).2
  generalize hm : l.foldl max 0 = m at hmost hmx hmx2 kM
  have hmm : 0 ≤ m * m ∧ m * m ≤ 268435456 := ⟨Int.mul_nonneg hmx.1 hmx.1, by have := Int.mul_le_mul hmx2 hmx2 hmx.1 (by omega); omega⟩
  have wmm : IntKind.i64.wrap (m * m) = m * m := wrap_in (by omega) (by omega)
  have n324 := cmp_ge bW (show RaB (m * m, 1) from ⟨⟨hmm.1, by show m * m ≤ _; omega⟩, by show (0 : Int) ≤ 1; decide, by show (1 : Int) ≤ 1000000; decide⟩) hmost
  have eqv := eqT28 B2 (Operand.tmp 325) (Operand.tmp 326) (wthM l A B)
  have wsub : IntKind.i64.wrap (Int.ofNat B - Int.ofNat A) = Int.ofNat (B - A) := by
    have : Int.ofNat B - Int.ofNat A = Int.ofNat (B - A) := by simp only [Int.ofNat_eq_natCast]; omega
    rw [this]; exact wrapN _ (by unfold two63; omega)
  have n84 : decide (IntKind.i64.wrap (Int.ofNat B - Int.ofNat A) < Int.ofNat lo) = false := by rw [wsub]; simp only [decide_eq_false_iff_not, Int.ofNat_eq_natCast]; omega
  have n94 : decide (IntKind.i64.wrap (Int.ofNat B - Int.ofNat A) > Int.ofNat hi) = false := by rw [wsub]; simp only [decide_eq_false_iff_not, Int.ofNat_eq_natCast]; omega
  have hd : decide (Int.ofNat l.length > 16) = false := by simp only [decide_eq_false_iff_not, Int.ofNat_eq_natCast]; omega
  have hd2 : decide (Int.ofNat lo > Int.ofNat l.length) = false := by simp only [decide_eq_false_iff_not, Int.ofNat_eq_natCast]; omega
  have fl : lenG [p2A (Int.ofNat lo, Int.ofNat hi)] = some (intA 0) := by
    have := sp1_at (A := p2C) (F := fun x => some (intA (lenM x))) (Int.ofNat lo, Int.ofNat hi)
    rw [lenOkN hk] at this; exact this
  have fs := specSer hlim
  rw [seriesZ.2 hS] at fs
  have hrem : abin (CS B2) BinOp.rem 3 (Operand.tmp 217) (Operand.tmp 219) (intA (IntKind.i64.wrap (Int.ofNat a))) (intA (Int.ofNat l.length)) = some (intA (Int.ofNat r)) := by
    rw [wrapN a (by unfold two63; omega), ← hr']
    exact rem_ok B2 _ _ (by simp only [Int.ofNat_eq_natCast]; omega)
  obtain ⟨x0, r0, hl⟩ : ∃ x0 r0, l = x0 :: r0 := by
    cases l with
    | nil => simp at hne
    | cons x r => exact ⟨x, r, rfl⟩
  have h1 := t11 (intA x0) (r0.map intA) ((l.set r v).map intA) (l.reverse.map intA) (Int.ofNat lo) (Int.ofNat hi) (Int.ofNat a) (Int.ofNat b) 0 0 (Int.ofNat A) (Int.ofNat B) (wthM l A B).1 (wthM l A B).2 (Int.ofNat c) (Int.ofNat d) (wthM (l.set r v) c d).1 (wthM (l.set r v) c d).2
    (Int.ofNat c1) (Int.ofNat d1) (wthM l c1 d1).1 (wthM l c1 d1).2 (Int.ofNat c2) (Int.ofNat d2) (wthM l A B).1 (wthM l A B).2 x m (cmpW (wthM (l.set r v) c d) (wthM l A B)) (cmpW (wthM l c1 d1) (wthM l A B)) (cmpW (wthM l c1 d1) (m * m, 1)) (m * m) r true
  have el : intA x0 :: r0.map intA = l.map intA := by rw [hl]; rfl
  have wl1 : IntKind.i64.wrap (Int.ofNat l.length - 1) = Int.ofNat (l.length - 1) := by
    have e1 : l.length = (l.length - 1) + 1 := by omega
    have e2 := subN1 (j := l.length - 1) (by unfold two63; omega)
    rw [← e1] at e2
    exact e2
  rw [el, e_len, hd, hd2, wb, wxb, hV, wmm, wl1] at h1
  rw [eSame] at kM
  have esz : allSz 1 (l.map intA) = true := allSzI _
  have hle : (([] : List AV) ++ l.map intA).length ≤ 16 := by rw [List.nil_append, List.length_map]; exact h16
  have hrl : r < (([] : List AV) ++ l.map intA).length := by rw [List.nil_append, List.length_map]; exact hmod
  have hat : (List.replicate 0 (ofV (Value.int IntKind.i64 0)) ++ l.map intA)[0 + r]? = some (intA x) := by
    rw [List.replicate_zero, List.nil_append, Nat.zero_add]; exact get_map intA hx
  have hset : (([] : List AV) ++ l.map intA).set (0 + r) (intA v) = (l.set r v).map intA := by rw [List.nil_append, Nat.zero_add, List.map_set]
  have hcl : ClosedL ((([] : List AV) ++ l.map intA).set (0 + r) (intA v)) ∧ (([] : List AV) ++ l.map intA).length = ((([] : List AV) ++ l.map intA).set (0 + r) (intA v)).length := by
    rw [hset]; exact ⟨closedInt _, by simp⟩
  have hms : ([.rsl 1 ((([] : List AV) ++ l.map intA).set (0 + r) (intA v)) false] : List AV) = [.rsl 1 ((l.set r v).map intA) false] := by rw [hset]
  have f19m' : ownG [.rsl 1 ((([] : List AV) ++ l.map intA).set (0 + r) (intA v)) false] = some (.rsl 1 ((l.set r v).map intA) false) := by rw [hms]; exact f19m
  rw [eSame] at g20t
  have f80a := spCmp (wthM (l.set r v) c d) (wthM l A B)
  have f80b := spCmp (wthM l c1 d1) (wthM l A B)
  have f80c := spCmp (wthM l c1 d1) (m * m, 1)
  exact B2_ok.tr h1 ⟨⟨rfl, f16⟩, ⟨rfl, fs⟩, ⟨rfl, fl⟩, ⟨rfl, f19⟩, ⟨rfl, g20⟩, ⟨rfl, fwin⟩, n84, n94, ⟨rfl, f26⟩, ⟨rfl, f19⟩, ⟨rfl, f21⟩, ⟨trivial, trivial, k0.says⟩,
    ⟨esz, rfl, by omega, by omega, by decide⟩, hrem, hrl, hat, hrl, hat, hcl, ⟨hms, f19m'⟩, ⟨rfl, g20m⟩, ⟨rfl, f19⟩, ⟨rfl, g20w⟩, ⟨trivial, trivial, kT.says⟩, ⟨rfl, f19t⟩, ⟨rfl, g20t⟩, ⟨trivial, trivial, kM.says⟩,
    ⟨rfl, f26m⟩, ⟨rfl, f26w⟩, ⟨rfl, f80a⟩, n309, ⟨rfl, f80b⟩, n315, ⟨rfl, f80c⟩, n324, eqv, rfl⟩
theorem h11 : Holds 11 law11G := holds3 fun l k p r hr => by
  cases hp : okU2 p with
  | false => simp [hp] at hr
  | true =>
    simp only [hp, cond_true, Option.some.injEq] at hr; subst hr
    obtain ⟨ha, hb⟩ := okU2_iff.1 hp
    have f16 : awakeG [] = some (boolA true) := rfl
    have ht := t11e (l.map intA) k.1 k.2 p.1 p.2 (seriesM l) (lenM k)
    rw [e_len] at ht
    have fl : lenG [p2A k] = some (intA (lenM k)) := sp1_at (A := p2C) (F := fun x => some (intA (lenM x))) k
    by_cases h16 : l.length > 16
    · have hd : decide (Int.ofNat l.length > 16) = true := by simp only [decide_eq_true_eq, Int.ofNat_eq_natCast]; omega
      rw [hd] at ht
      exact B2_ok.tr ht ⟨⟨rfl, f16⟩, ⟨rfl, f16⟩, rfl⟩
    · have hd : decide (Int.ofNat l.length > 16) = false := by simp only [decide_eq_false_iff_not, Int.ofNat_eq_natCast]; omega
      have hlim : Nat.ble l.length lim = true := Nat.ble_eq_true_of_le (by unfold lim; omega)
      cases hs : seriesM l != 0 with
      | true =>
        rw [hd, hs] at ht
        exact B2_ok.tr ht ⟨⟨rfl, f16⟩, ⟨rfl, specSer hlim⟩, ⟨rfl, f16⟩, rfl⟩
      | false =>
        cases hk : lenM k != 0 with
        | true =>
          rw [hd, hs, hk] at ht
          exact B2_ok.tr ht ⟨⟨rfl, f16⟩, ⟨rfl, specSer hlim⟩, ⟨rfl, fl⟩, rfl, ⟨rfl, f16⟩, rfl⟩
        | false =>
          have hS : Ser l := seriesZ.1 (by simpa using hs)
          obtain ⟨lo, hi, rfl, h1, h2, h3⟩ := lenZ (show lenM k = 0 by simpa using hk)
          by_cases hll : lo ≤ l.length
          · exact law11_pos hS (by omega) ⟨h1, h2, h3⟩ hll ha hb
          · have hg : decide (Int.ofNat lo > Int.ofNat l.length) = true := by simp only [decide_eq_true_eq, Int.ofNat_eq_natCast]; omega
            rw [hd, hs, hk] at ht
            exact B2_ok.tr ht ⟨⟨rfl, f16⟩, ⟨rfl, specSer hlim⟩, ⟨rfl, fl⟩, hg, ⟨rfl, f16⟩, rfl⟩
end Go.Vm.S6
