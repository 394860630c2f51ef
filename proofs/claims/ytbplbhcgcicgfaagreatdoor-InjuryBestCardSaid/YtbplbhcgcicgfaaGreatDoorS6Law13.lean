/- InjuryHolds: the law's contract. -/
import Derived.Test.YtbplbhcgcicgfaaGreatDoorS6H1
namespace Go.Vm.S6
open Go.Proofs Go.RowKit
def law13G : List AV → Option AV := sp3 intsC i16C u2C fun _ _ p => bif okU2 p then some (boolA true) else none
theorem tmod_nat {a n : Nat} : (Int.ofNat a).tmod (Int.ofNat n) = Int.ofNat (a % n) := rfl
theorem nat_u8 {a : Int} (h : 0 ≤ a ∧ a ≤ 255) : ∃ m : Nat, a = Int.ofNat m ∧ m ≤ 255 := ⟨a.toNat, by simp only [Int.ofNat_eq_natCast]; omega, by omega⟩
theorem sameRefl (l : List Int) (h : l.length < two63) : sameG [slA intC 1 l, slA intC 1 l] = some (boolA true) := by
  have h1 := sp2_at (A := intsC) (B := intsC) (F := fun l m => bif Nat.blt l.length two63 then some (boolA (sameM (· == ·) l m)) else none) l l
  have hb : Nat.blt l.length two63 = true := Nat.ble_eq_true_of_le h
  rw [hb, sameM_refl (fun x => by simp) l] at h1
  exact h1
theorem h13 : Holds 13 law13G := holds3 fun l lv p r hr => by
  cases hp : okU2 p with
  | false => simp [hp] at hr
  | true =>
    simp only [hp, cond_true, Option.some.injEq] at hr; subst hr
    obtain ⟨a, b⟩ := p
    obtain ⟨ha, hb⟩ := okU2_iff.1 hp
    have f16 : awakeG [] = some (boolA true) := rfl
    have e := e_len intA l
    have ht := fun (ts fs bs : List AV) (e3 rr hv kk l1 l2 ab o1 o2 v1 v2 h2 y1 y2 cnt sh ng : Int) (ns ff ft : Nat) => t13 (l.map intA) ts fs bs lv a b (seriesM l) e3 rr hv kk l1 l2 ab o1 o2 v1 v2 h2 y1 y2 cnt sh ng ns ff ft
    by_cases h16 : l.length > 16
    · have hd : decide (Int.ofNat l.length > 16) = true := by simp only [decide_eq_true_eq, Int.ofNat_eq_natCast]; omega
      have h1 := ht [] [] [] 0 0 0 0 0 0 0 0 0 0 0 0 0 0 0 0 0 0 0 0
      rw [e, hd] at h1
      exact B2_ok.tr h1 ⟨⟨rfl, f16⟩, ⟨rfl, f16⟩, rfl⟩
    · have hd : decide (Int.ofNat l.length > 16) = false := by simp only [decide_eq_false_iff_not, Int.ofNat_eq_natCast]; omega
      have hlim : Nat.ble l.length lim = true := Nat.ble_eq_true_of_le (by unfold lim; omega)
      cases hs : seriesM l != 0 with
      | true =>
        have h1 := ht [] [] [] 0 0 0 0 0 0 0 0 0 0 0 0 0 0 0 0 0 0 0 0
        rw [e, hd, hs] at h1
        exact B2_ok.tr h1 ⟨⟨rfl, f16⟩, ⟨rfl, specSer hlim⟩, ⟨rfl, f16⟩, rfl⟩
      | false =>
        have hS : Ser l := seriesZ.1 (by simpa using hs)
        have hn1 := hS.1
        obtain ⟨a, rfl, ha2⟩ := nat_u8 ha
        obtain ⟨b, rfl, hb2⟩ := nat_u8 hb
        have wa : IntKind.i64.wrap (Int.ofNat a) = Int.ofNat a := wrapN a (by unfold two63; omega)
        have wb : IntKind.i64.wrap (Int.ofNat b) = Int.ofNat b := wrapN b (by unfold two63; omega)
        have hmod : a % l.length < l.length := Nat.mod_lt _ (by omega)
        have hns : 1 ≤ 1 + a % l.length ∧ 1 + a % l.length ≤ l.length := by omega
        generalize hN : 1 + a % l.length = ns at hns
        obtain ⟨f, g32, hf1, hf2⟩ := spHeld hS hns
        have hvb : -16384 ≤ minW l f ns ∧ minW l f ns ≤ 16384 := by
          refine ⟨minW_ge _ (by omega) fun x hx => (hS.2.2 x hx).1, ?_⟩
          have := minM_mem (l := (l.drop f).take ns) (by intro h0; have := congrArg List.length h0; rw [List.length_take, List.length_drop, List.length_nil] at this; omega)
          exact (hS.2.2 _ (List.mem_of_mem_drop (List.mem_of_mem_take this))).2
        obtain ⟨p, q, g30, hpq, hq, hall, hmax⟩ := spLong hS (lvl_bd lv)
        have g31 := spAbv hS (lvl_bd lv)
        obtain ⟨o1, o2, g30o, ho1, ho2, _, homax⟩ := spLong hS hvb
        have hown := own_ge (show f + ns ≤ l.length by omega) homax
        have hmomL : Ser (l.map mod8) := by
          refine ⟨by rw [List.length_map]; exact hS.1, by rw [List.length_map]; exact hS.2.1, fun x hx => ?_⟩
          rw [List.mem_map] at hx
          obtain ⟨y, _, rfl⟩ := hx
          have := mod8_bd y
          omega
        have hsh : b % 1001 = b := Nat.mod_eq_of_lt (by omega)
        have g40 := spMom (k := Int.ofNat b) hS hmomL (by rw [List.length_map]) (by simp only [Int.ofNat_eq_natCast]; omega)
        generalize hts : (l.zip (l.map mod8)).map (momW (Int.ofNat b)) = ts at g40
        have htl : ts.length = l.length := by rw [← hts]; simp
        have hlt : Nat.ble ts.length lim = true := by rw [htl]; exact hlim
        have hlf : Nat.ble (l.map mod8).length lim = true := by rw [List.length_map]; exact hlim
        have f19 := specOwn hlim
        have f19t := specOwn hlt
        have f19f := specOwn hlf
        have f22t := specSer hlt
        have hw : ∀ x ∈ (l.drop f).take ns, minW l f ns ≤ x := fun x hx => minM_le hx
        have k0 := hold_loop0 (l := l) (ws := (l.drop f).take ns) (kk := lvlM lv) (hv := minW l f ns) (a := Int.ofNat a) (b := Int.ofNat b) (ns := ns) hw (by rw [List.length_take]; unfold two63; omega)
        have k2 := hold_loop2 (l := l) (kk := lvlM lv) (ab := abvM l (lvlM lv)) (a := Int.ofNat a) (b := Int.ofNat b) (p := p) (q := q) (by omega) hall hq hpq hmax
        have k4 := hold_loop4 (l := l) (ab := abvM l (lvlM lv)) (cnt := abvM l (lvlM lv)) (sh := Int.ofNat b) (by omega)
        have n142 : decide (Int.ofNat p < 0) = false := by simp only [decide_eq_false_iff_not, Int.ofNat_eq_natCast]; omega
        have n149 : decide (Int.ofNat p > Int.ofNat q) = false := by simp only [decide_eq_false_iff_not, Int.ofNat_eq_natCast]; omega
        have n156 : decide (Int.ofNat q > Int.ofNat l.length) = false := by simp only [decide_eq_false_iff_not, Int.ofNat_eq_natCast]; omega
        have wsub : ∀ x y : Nat, y ≤ x → x ≤ l.length → IntKind.i64.wrap (Int.ofNat x - Int.ofNat y) = Int.ofNat (x - y) := fun x y h1 h2 => by
          have : Int.ofNat x - Int.ofNat y = Int.ofNat (x - y) := by simp only [Int.ofNat_eq_natCast]; omega
          rw [this]; exact wrapN _ (by unfold two63; omega)
        have n164 : decide (IntKind.i64.wrap (Int.ofNat o2 - Int.ofNat o1) < Int.ofNat ns) = false := by
          rw [wsub _ _ ho1 ho2]; simp only [decide_eq_false_iff_not, Int.ofNat_eq_natCast]; omega
        have n84 : (IntKind.i64.wrap (Int.ofNat (f + ns) - Int.ofNat f) != Int.ofNat ns) = false := by
          rw [wsub _ _ (by omega) (by omega), show f + ns - f = ns by omega]; simp
        have n273 : (Int.ofNat (ts.map intA).length != Int.ofNat l.length) = false := by rw [e_len, htl]; simp
        have hadd1 : abin (CS B2) BinOp.add 3 (Operand.const (Value.int IntKind.i64 1)) (Operand.tmp 58) (intA 1) (intA (Int.ofNat (a % l.length))) = some (intA (Int.ofNat ns)) := by
          rw [add_ok, show (1 : Int) + Int.ofNat (a % l.length) = Int.ofNat (1 + a % l.length) from by simp only [Int.ofNat_eq_natCast]; omega, hN, wrapN _ (by unfold two63; omega)]
        have hrem1 : abin (CS B2) BinOp.rem 3 (Operand.tmp 55) (Operand.tmp 57) (intA (Int.ofNat a)) (intA (Int.ofNat l.length)) = some (intA (Int.ofNat (a % l.length))) := rem_ok B2 _ _ (by simp only [Int.ofNat_eq_natCast]; omega)
        have hrem2 : abin (CS B2) BinOp.rem 3 (Operand.tmp 240) (Operand.const (Value.int IntKind.i64 1001)) (intA (Int.ofNat b)) (intA 1001) = some (intA (Int.ofNat b)) := by
          have := rem_ok B2 (Operand.tmp 240) (Operand.const (Value.int IntKind.i64 1001)) (a := Int.ofNat b) (b := 1001) (by omega)
          rw [show (Int.ofNat b).tmod 1001 = Int.ofNat (b % 1001) from rfl, hsh] at this
          exact this
        have fwin : win24G [intA (Int.ofNat l.length), p2A (Int.ofNat f, Int.ofNat (f + ns))] = some (intA 0) := by
          have := sp2_at (A := intC) (B := p2C) (F := fun n s => some (intA (winErr n s))) (Int.ofNat l.length) (Int.ofNat f, Int.ofNat (f + ns))
          rw [winW (by omega)] at this
          exact this
        have funit : unitG [intA (minW l f ns)] = some (intA 0) := by
          have := sp1_at (A := intC) (F := fun n => some (intA (unitM n))) (minW l f ns)
          have h0 : unitM (minW l f ns) = 0 := by unfold unitM; rw [within_zero]; exact hvb
          rw [h0] at this
          exact this
        have wng : IntKind.i64.wrap (0 - Int.ofNat b) = -Int.ofNat b := by
          rw [wrap_in (by simp only [Int.ofNat_eq_natCast]; omega) (by simp only [Int.ofNat_eq_natCast]; omega)]; omega
        -- what follows the two questions
        have back : seriesM ts = 0 → pmoG [slA intC 1 ts, slA intC 1 (l.map mod8), intA (-Int.ofNat b)] = some (.tup [slA intC 1 l, intA 0]) := fun h0 => by
          have hT : Ser ts := seriesZ.1 h0
          have := spMom (k := -Int.ofNat b) hT hmomL (by rw [List.length_map, htl]) (by simp only [Int.ofNat_eq_natCast]; omega)
          rw [← hts, mom_back (by simp only [Int.ofNat_eq_natCast]; omega) l (l.map mod8) hS.2.2 (fun x hx => by rw [List.mem_map] at hx; obtain ⟨y, _, rfl⟩ := hx; exact mod8_bd y) (by rw [List.length_map]), hts] at this
          exact this
        have hdone : (Int.ofNat 0 : Int) = 0 := rfl
        obtain ⟨v1, v2, hv12⟩ : ∃ v1 v2 : Nat, minW l f ns < 16384 → lngG [slA intC 1 l, intA (minW l f ns + 1)] = some (.tup [p2A (Int.ofNat v1, Int.ofNat v2), intA 0]) ∧ decide (IntKind.i64.wrap (Int.ofNat v2 - Int.ofNat v1) ≥ Int.ofNat ns) = false := by
          by_cases hlt : minW l f ns < 16384
          · obtain ⟨v1, v2, g, h1, h2, h3, _⟩ := spLong hS (show -16384 ≤ minW l f ns + 1 ∧ minW l f ns + 1 ≤ 16384 by omega)
            refine ⟨v1, v2, fun _ => ⟨g, ?_⟩⟩
            have := above_lt hns.1 hf2 h2 h3
            rw [wsub _ _ h1 h2]; simp only [decide_eq_false_iff_not, Int.ofNat_eq_natCast]; omega
          · exact ⟨0, 0, fun h => absurd h hlt⟩
        obtain ⟨f2, hh2⟩ : ∃ f2 : Nat, ns < l.length → hdG [slA intC 1 l, intA (Int.ofNat (ns + 1))] = some (.tup [intA (minW l f2 (ns + 1)), p2A (Int.ofNat f2, Int.ofNat (f2 + (ns + 1))), intA 0]) ∧ decide (minW l f2 (ns + 1) > minW l f ns) = false := by
          by_cases hlt : ns < l.length
          · obtain ⟨f2, g, h1, h2⟩ := spHeld hS (show 1 ≤ ns + 1 ∧ ns + 1 ≤ l.length by omega)
            refine ⟨f2, fun _ => ⟨g, ?_⟩⟩
            have := less_le hns.1 (show ns + 1 ≤ l.length by omega) hf2 h1
            simp only [decide_eq_false_iff_not]; omega
          · exact ⟨0, fun h => absurd h hlt⟩
        have h1 := ht (ts.map intA) ((l.map mod8).map intA) (l.map intA) (seriesM ts) (Int.ofNat (a % l.length)) (minW l f ns) (lvlM lv) (Int.ofNat p) (Int.ofNat q) (abvM l (lvlM lv)) (Int.ofNat o1) (Int.ofNat o2) (Int.ofNat v1) (Int.ofNat v2) (minW l f2 (ns + 1)) (Int.ofNat f2) (Int.ofNat (f2 + (ns + 1))) (abvM l (lvlM lv)) (Int.ofNat b) (-Int.ofNat b) ns f (f + ns)
        rw [e, hd, hs, wa, wb, wng] at h1
        have sl1 : f ≤ f + ns ∧ f + ns ≤ (l.map intA).length := by rw [List.length_map]; omega
        have ew : List.take (f + ns - f) (List.drop f (l.map intA)) = ((l.drop f).take ns).map intA := by rw [show f + ns - f = ns by omega, ← List.map_drop, ← List.map_take]
        rw [ew, e_len intA ((l.drop f).take ns)] at h1
        have hbeq : (abvM l (lvlM lv) == abvM l (lvlM lv)) = true := by simp
        have hsame := sameRefl l (by unfold two63; omega)
        have hadd2 : abin (CS B2) BinOp.add 3 (Operand.tmp 170) (Operand.const (Value.int IntKind.i64 1)) (intA (minW l f ns)) (intA 1) = some (intA (minW l f ns + 1)) := by
          rw [add_ok, wrap_in (by omega) (by omega)]
        have hadd3 : abin (CS B2) BinOp.add 3 (Operand.tmp 193) (Operand.const (Value.int IntKind.i64 1)) (intA (Int.ofNat ns)) (intA 1) = some (intA (Int.ofNat (ns + 1))) := by
          rw [add_ok, wrap_succ (by omega)]
        rw [hbeq] at h1
        cases c1 : decide (minW l f ns < 16384) with
        | true =>
          obtain ⟨g1, g2⟩ := hv12 (of_decide_eq_true c1)
          cases c2 : decide (Int.ofNat ns < Int.ofNat l.length) with
          | true =>
            obtain ⟨g3, g4⟩ := hh2 (by have := of_decide_eq_true c2; simp only [Int.ofNat_eq_natCast] at this; omega)
            cases c3 : seriesM ts == 0 with
            | true =>
              rw [c1, c2, c3] at h1
              exact B2_ok.tr h1 ⟨⟨rfl, f16⟩, ⟨rfl, specSer hlim⟩, hrem1, hadd1, ⟨rfl, f19⟩, ⟨rfl, g32⟩, ⟨rfl, fwin⟩, n84, ⟨rfl, funit⟩, sl1, ⟨trivial, trivial, k0.says⟩, ⟨rfl, f19⟩, ⟨rfl, g30⟩, ⟨rfl, f19⟩, ⟨rfl, g31⟩, ⟨rfl, f19⟩, ⟨rfl, g30o⟩, n142, n149, n156, n164,
                ⟨rfl, f19⟩, hadd2, ⟨rfl, g1⟩, g2, ⟨rfl, f19⟩, hadd3, ⟨rfl, g3⟩, g4, ⟨trivial, trivial, k2.says⟩, hrem2, ⟨trivial, trivial, k4.says⟩, ⟨rfl, f19⟩, ⟨rfl, f19f⟩, ⟨rfl, g40⟩, n273, ⟨rfl, f22t⟩, ⟨rfl, f19t⟩, ⟨rfl, f19f⟩, ⟨rfl, back (by simpa using c3)⟩, ⟨rfl, hsame⟩, rfl⟩
            | false =>
              rw [c1, c2, c3] at h1
              exact B2_ok.tr h1 ⟨⟨rfl, f16⟩, ⟨rfl, specSer hlim⟩, hrem1, hadd1, ⟨rfl, f19⟩, ⟨rfl, g32⟩, ⟨rfl, fwin⟩, n84, ⟨rfl, funit⟩, sl1, ⟨trivial, trivial, k0.says⟩, ⟨rfl, f19⟩, ⟨rfl, g30⟩, ⟨rfl, f19⟩, ⟨rfl, g31⟩, ⟨rfl, f19⟩, ⟨rfl, g30o⟩, n142, n149, n156, n164,
                ⟨rfl, f19⟩, hadd2, ⟨rfl, g1⟩, g2, ⟨rfl, f19⟩, hadd3, ⟨rfl, g3⟩, g4, ⟨trivial, trivial, k2.says⟩, hrem2, ⟨trivial, trivial, k4.says⟩, ⟨rfl, f19⟩, ⟨rfl, f19f⟩, ⟨rfl, g40⟩, n273, ⟨rfl, f22t⟩, rfl⟩
          | false =>
            cases c3 : seriesM ts == 0 with
            | true =>
              rw [c1, c2, c3] at h1
              exact B2_ok.tr h1 ⟨⟨rfl, f16⟩, ⟨rfl, specSer hlim⟩, hrem1, hadd1, ⟨rfl, f19⟩, ⟨rfl, g32⟩, ⟨rfl, fwin⟩, n84, ⟨rfl, funit⟩, sl1, ⟨trivial, trivial, k0.says⟩, ⟨rfl, f19⟩, ⟨rfl, g30⟩, ⟨rfl, f19⟩, ⟨rfl, g31⟩, ⟨rfl, f19⟩, ⟨rfl, g30o⟩, n142, n149, n156, n164,
                ⟨rfl, f19⟩, hadd2, ⟨rfl, g1⟩, g2, ⟨trivial, trivial, k2.says⟩, hrem2, ⟨trivial, trivial, k4.says⟩, ⟨rfl, f19⟩, ⟨rfl, f19f⟩, ⟨rfl, g40⟩, n273, ⟨rfl, f22t⟩, ⟨rfl, f19t⟩, ⟨rfl, f19f⟩, ⟨rfl, back (by simpa using c3)⟩, ⟨rfl, hsame⟩, rfl⟩
            | false =>
              rw [c1, c2, c3] at h1
              exact B2_ok.tr h1 ⟨⟨rfl, f16⟩, ⟨rfl, specSer hlim⟩, hrem1, hadd1, ⟨rfl, f19⟩, ⟨rfl, g32⟩, ⟨rfl, fwin⟩, n84, ⟨rfl, funit⟩, sl1, ⟨trivial, trivial, k0.says⟩, ⟨rfl, f19⟩, ⟨rfl, g30⟩, ⟨rfl, f19⟩, ⟨rfl, g31⟩, ⟨rfl, f19⟩, ⟨rfl, g30o⟩, n142, n149, n156, n164,
                ⟨rfl, f19⟩, hadd2, ⟨rfl, g1⟩, g2, ⟨trivial, trivial, k2.says⟩, hrem2, ⟨trivial, trivial, k4.says⟩, ⟨rfl, f19⟩, ⟨rfl, f19f⟩, ⟨rfl, g40⟩, n273, ⟨rfl, f22t⟩, rfl⟩
        | false =>
          cases c2 : decide (Int.ofNat ns < Int.ofNat l.length) with
          | true =>
            obtain ⟨g3, g4⟩ := hh2 (by have := of_decide_eq_true c2; simp only [Int.ofNat_eq_natCast] at this; omega)
            cases c3 : seriesM ts == 0 with
            | true =>
              rw [c1, c2, c3] at h1
              exact B2_ok.tr h1 ⟨⟨rfl, f16⟩, ⟨rfl, specSer hlim⟩, hrem1, hadd1, ⟨rfl, f19⟩, ⟨rfl, g32⟩, ⟨rfl, fwin⟩, n84, ⟨rfl, funit⟩, sl1, ⟨trivial, trivial, k0.says⟩, ⟨rfl, f19⟩, ⟨rfl, g30⟩, ⟨rfl, f19⟩, ⟨rfl, g31⟩, ⟨rfl, f19⟩, ⟨rfl, g30o⟩, n142, n149, n156, n164,
                ⟨rfl, f19⟩, hadd3, ⟨rfl, g3⟩, g4, ⟨trivial, trivial, k2.says⟩, hrem2, ⟨trivial, trivial, k4.says⟩, ⟨rfl, f19⟩, ⟨rfl, f19f⟩, ⟨rfl, g40⟩, n273, ⟨rfl, f22t⟩, ⟨rfl, f19t⟩, ⟨rfl, f19f⟩, ⟨rfl, back (by simpa using c3)⟩, ⟨rfl, hsame⟩, rfl⟩
            | false =>
              rw [c1, c2, c3] at h1
              exact B2_ok.tr h1 ⟨⟨rfl, f16⟩, ⟨rfl, specSer hlim⟩, hrem1, hadd1, ⟨rfl, f19⟩, ⟨rfl, g32⟩, ⟨rfl, fwin⟩, n84, ⟨rfl, funit⟩, sl1, ⟨trivial, trivial, k0.says⟩, ⟨rfl, f19⟩, ⟨rfl, g30⟩, ⟨rfl, f19⟩, ⟨rfl, g31⟩, ⟨rfl, f19⟩, ⟨rfl, g30o⟩, n142, n149, n156, n164,
                ⟨rfl, f19⟩, hadd3, ⟨rfl, g3⟩, g4, ⟨trivial, trivial, k2.says⟩, hrem2, ⟨trivial, trivial, k4.says⟩, ⟨rfl, f19⟩, ⟨rfl, f19f⟩, ⟨rfl, g40⟩, n273, ⟨rfl, f22t⟩, rfl⟩
          | false =>
            cases c3 : seriesM ts == 0 with
            | true =>
              rw [c1, c2, c3] at h1
              exact B2_ok.tr h1 ⟨⟨rfl, f16⟩, ⟨rfl, specSer hlim⟩, hrem1, hadd1, ⟨rfl, f19⟩, ⟨rfl, g32⟩, ⟨rfl, fwin⟩, n84, ⟨rfl, funit⟩, sl1, ⟨trivial, trivial, k0.says⟩, ⟨rfl, f19⟩, ⟨rfl, g30⟩, ⟨rfl, f19⟩, ⟨rfl, g31⟩, ⟨rfl, f19⟩, ⟨rfl, g30o⟩, n142, n149, n156, n164,
                ⟨trivial, trivial, k2.says⟩, hrem2, ⟨trivial, trivial, k4.says⟩, ⟨rfl, f19⟩, ⟨rfl, f19f⟩, ⟨rfl, g40⟩, n273, ⟨rfl, f22t⟩, ⟨rfl, f19t⟩, ⟨rfl, f19f⟩, ⟨rfl, back (by simpa using c3)⟩, ⟨rfl, hsame⟩, rfl⟩
            | false =>
              rw [c1, c2, c3] at h1
              exact B2_ok.tr h1 ⟨⟨rfl, f16⟩, ⟨rfl, specSer hlim⟩, hrem1, hadd1, ⟨rfl, f19⟩, ⟨rfl, g32⟩, ⟨rfl, fwin⟩, n84, ⟨rfl, funit⟩, sl1, ⟨trivial, trivial, k0.says⟩, ⟨rfl, f19⟩, ⟨rfl, g30⟩, ⟨rfl, f19⟩, ⟨rfl, g31⟩, ⟨rfl, f19⟩, ⟨rfl, g30o⟩, n142, n149, n156, n164,
                ⟨trivial, trivial, k2.says⟩, hrem2, ⟨trivial, trivial, k4.says⟩, ⟨rfl, f19⟩, ⟨rfl, f19f⟩, ⟨rfl, g40⟩, n273, ⟨rfl, f22t⟩, rfl⟩
end Go.Vm.S6
