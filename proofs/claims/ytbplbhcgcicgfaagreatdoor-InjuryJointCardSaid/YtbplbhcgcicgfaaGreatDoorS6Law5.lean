/- InjurySums. -/
import Derived.Test.YtbplbhcgcicgfaaGreatDoorS6Law4
namespace Go.Vm.S6
open Go.Proofs Go.RowKit
set_option maxRecDepth 100000 in
theorem t5x (es fs : List AV) (a b k : Int) : evTreeD (CS T8) 60 5 [.rsl 1 es false, .rsl 1 fs false, .agg [intA a, intA b, intA k]] [.sp [] (boolA true), .sp [.rsl 1 es false] (boolA false)] =
    (.need (([] : List AV) = ([] : List AV) ∧ (Cx.spec (CS T8) 16 ([] : List AV)) = (some (AV.v (.bool true)))) (.need (([.rsl 1 es false] : List AV) = ([.rsl 1 es false] : List AV) ∧ (Cx.spec (CS T8) 17 ([.rsl 1 es false] : List AV)) = (some (AV.v (.bool false)))) (.done (some (.v (.bool true)))))) := by kernel_rfl
set_option maxRecDepth 100000 in
theorem t5 (es fs ms ns : List AV) (a b k n1 n2 e1 e2 s1 s2 : Int) (x1 y1 : P2) (w2 w3 q : Bool) : evTreeD (CS T8) 60 5 [.rsl 1 es false, .rsl 1 fs false, .agg [intA a, intA b, intA k]] [.sp [] (boolA true), .sp [.rsl 1 es false] (boolA true), .sp [.rsl 1 fs false] (boolA w2), .br [] [.sp [.rsl 1 es false] (.rsl 1 es false), .sp [.rsl 1 fs false] (.rsl 1 fs false), .sp [.rsl 1 es false, .rsl 1 fs false, .agg [intA a, intA b]] (.tup [p2A x1, intA n1, intA e1]), .sp [.rsl 1 es false] (.rsl 1 es false), .sp [.rsl 1 fs false] (.rsl 1 fs false), .sp [.rsl 1 es false, .rsl 1 fs false, intA k] (.tup [.rsl 1 ms false, intA e2]), .sp [.rsl 1 es false] (intA s1), .sp [.rsl 1 fs false] (intA s2), .br [.sp [.rsl 1 es false, .rsl 1 fs false, .agg [intA a, intA b]] (.tup [p2A y1, intA n2]), .br [.sp [.rsl 1 es false, .rsl 1 fs false, intA k] (.rsl 1 ns false), .eq (boolA q), .sp [.rsl 1 ms false, .rsl 1 ns false] (boolA w3)] [.eq (boolA q), .sp [.rsl 1 ms false, nilS] (boolA w3)]] [.br [.sp [.rsl 1 es false, .rsl 1 fs false, intA k] (.rsl 1 ns false), .eq (boolA q), .sp [.rsl 1 ms false, .rsl 1 ns false] (boolA w3)] [.eq (boolA q), .sp [.rsl 1 ms false, nilS] (boolA w3)]]]] =
    (.need (([] : List AV) = ([] : List AV) ∧ (Cx.spec (CS T8) 16 ([] : List AV)) = (some (AV.v (.bool true)))) (.need (([.rsl 1 es false] : List AV) = ([.rsl 1 es false] : List AV) ∧ (Cx.spec (CS T8) 17 ([.rsl 1 es false] : List AV)) = (some (AV.v (.bool true)))) (.need (([.rsl 1 fs false] : List AV) = ([.rsl 1 fs false] : List AV) ∧ (Cx.spec (CS T8) 17 ([.rsl 1 fs false] : List AV)) = (some (AV.v (.bool w2)))) (bif !w2 then (.done (some (.v (.bool true)))) else (.need (([.rsl 1 es false] : List AV) = ([.rsl 1 es false] : List AV) ∧ (Cx.spec (CS T8) 19 ([.rsl 1 es false] : List AV)) = (some (AV.rsl 1 es false))) (.need (([.rsl 1 fs false] : List AV) = ([.rsl 1 fs false] : List AV) ∧ (Cx.spec (CS T8) 19 ([.rsl 1 fs false] : List AV)) = (some (AV.rsl 1 fs false))) (.need (([.rsl 1 es false, .rsl 1 fs false, .agg [.v (.int .i64 a), .v (.int .i64 b)]] : List AV) = ([.rsl 1 es false, .rsl 1 fs false, .agg [.v (.int .i64 a), .v (.int .i64 b)]] : List AV) ∧ (Cx.spec (CS T8) 39 ([.rsl 1 es false, .rsl 1 fs false, .agg [.v (.int .i64 a), .v (.int .i64 b)]] : List AV)) = (some (AV.tup [.agg [.v (.int .i64 x1.fst), .v (.int .i64 x1.snd)], .v (.int .i64 n1), .v (.int .i64 e1)]))) (.need (([.rsl 1 es false] : List AV) = ([.rsl 1 es false] : List AV) ∧ (Cx.spec (CS T8) 19 ([.rsl 1 es false] : List AV)) = (some (AV.rsl 1 es false))) (.need (([.rsl 1 fs false] : List AV) = ([.rsl 1 fs false] : List AV) ∧ (Cx.spec (CS T8) 19 ([.rsl 1 fs false] : List AV)) = (some (AV.rsl 1 fs false))) (.need (([.rsl 1 es false, .rsl 1 fs false, .v (.int .i64 k)] : List AV) = ([.rsl 1 es false, .rsl 1 fs false, .v (.int .i64 k)] : List AV) ∧ (Cx.spec (CS T8) 40 ([.rsl 1 es false, .rsl 1 fs false, .v (.int .i64 k)] : List AV)) = (some (AV.tup [.rsl 1 ms false, .v (.int .i64 e2)]))) (.need (([.rsl 1 es false] : List AV) = ([.rsl 1 es false] : List AV) ∧ (Cx.spec (CS T8) 22 ([.rsl 1 es false] : List AV)) = (some (AV.v (.int .i64 s1)))) (.need (([.rsl 1 fs false] : List AV) = ([.rsl 1 fs false] : List AV) ∧ (Cx.spec (CS T8) 22 ([.rsl 1 fs false] : List AV)) = (some (AV.v (.int .i64 s2)))) (bif firstM [firstM [s1, s2, whenM (Int.ofNat es.length != Int.ofNat fs.length) 2], limM (a, b)] == 0 then (.need (([.rsl 1 es false, .rsl 1 fs false, .agg [.v (.int .i64 a), .v (.int .i64 b)]] : List AV) = ([.rsl 1 es false, .rsl 1 fs false, .agg [.v (.int .i64 a), .v (.int .i64 b)]] : List AV) ∧ (Cx.spec (CS T8) 43 ([.rsl 1 es false, .rsl 1 fs false, .agg [.v (.int .i64 a), .v (.int .i64 b)]] : List AV)) = (some (AV.tup [.agg [.v (.int .i64 y1.fst), .v (.int .i64 y1.snd)], .v (.int .i64 n2)]))) (bif firstM [firstM [s1, s2, whenM (Int.ofNat es.length != Int.ofNat fs.length) 2], withinM k (-1000) 1000] == 0 then (.need (([.rsl 1 es false, .rsl 1 fs false, .v (.int .i64 k)] : List AV) = ([.rsl 1 es false, .rsl 1 fs false, .v (.int .i64 k)] : List AV) ∧ (Cx.spec (CS T8) 44 ([.rsl 1 es false, .rsl 1 fs false, .v (.int .i64 k)] : List AV)) = (some (AV.rsl 1 ns false))) (.need ((abin (CS T8) BinOp.eql 28 (Operand.tmp 94) (Operand.tmp 95) (AV.agg [.v (.int .i64 x1.fst), .v (.int .i64 x1.snd)]) (AV.agg [.v (.int .i64 y1.fst), .v (.int .i64 y1.snd)])) = (some (AV.v (.bool q)))) (bif q then (bif n1 == n2 then (bif e1 == firstM [firstM [s1, s2, whenM (Int.ofNat es.length != Int.ofNat fs.length) 2], limM (a, b)] then (.need (([.rsl 1 ms false, .rsl 1 ns false] : List AV) = ([.rsl 1 ms false, .rsl 1 ns false] : List AV) ∧ (Cx.spec (CS T8) 45 ([.rsl 1 ms false, .rsl 1 ns false] : List AV)) = (some (AV.v (.bool w3)))) (bif w3 then (.done (some (.v (.bool (e2 == firstM [firstM [s1, s2, whenM (Int.ofNat es.length != Int.ofNat fs.length) 2], withinM k (-1000) 1000]))))) else (.done (some (.v (.bool false)))))) else (.done (some (.v (.bool false))))) else (.done (some (.v (.bool false))))) else (.done (some (.v (.bool false))))))) else (.need ((abin (CS T8) BinOp.eql 28 (Operand.tmp 94) (Operand.tmp 95) (AV.agg [.v (.int .i64 x1.fst), .v (.int .i64 x1.snd)]) (AV.agg [.v (.int .i64 y1.fst), .v (.int .i64 y1.snd)])) = (some (AV.v (.bool q)))) (bif q then (bif n1 == n2 then (bif e1 == firstM [firstM [s1, s2, whenM (Int.ofNat es.length != Int.ofNat fs.length) 2], limM (a, b)] then (.need (([.rsl 1 ms false, .v (.slice none 0 0)] : List AV) = ([.rsl 1 ms false, .v (.slice none 0 0)] : List AV) ∧ (Cx.spec (CS T8) 45 ([.rsl 1 ms false, .v (.slice none 0 0)] : List AV)) = (some (AV.v (.bool w3)))) (bif w3 then (.done (some (.v (.bool (e2 == firstM [firstM [s1, s2, whenM (Int.ofNat es.length != Int.ofNat fs.length) 2], withinM k (-1000) 1000]))))) else (.done (some (.v (.bool false)))))) else (.done (some (.v (.bool false))))) else (.done (some (.v (.bool false))))) else (.done (some (.v (.bool false)))))))) else (bif firstM [firstM [s1, s2, whenM (Int.ofNat es.length != Int.ofNat fs.length) 2], withinM k (-1000) 1000] == 0 then (.need (([.rsl 1 es false, .rsl 1 fs false, .v (.int .i64 k)] : List AV) = ([.rsl 1 es false, .rsl 1 fs false, .v (.int .i64 k)] : List AV) ∧ (Cx.spec (CS T8) 44 ([.rsl 1 es false, .rsl 1 fs false, .v (.int .i64 k)] : List AV)) = (some (AV.rsl 1 ns false))) (.need ((abin (CS T8) BinOp.eql 28 (Operand.tmp 94) (Operand.tmp 95) (AV.agg [.v (.int .i64 x1.fst), .v (.int .i64 x1.snd)]) (AV.agg [.v (.int .i64 0), .v (.int .i64 0)])) = (some (AV.v (.bool q)))) (bif q then (bif n1 == 0 then (bif e1 == firstM [firstM [s1, s2, whenM (Int.ofNat es.length != Int.ofNat fs.length) 2], limM (a, b)] then (.need (([.rsl 1 ms false, .rsl 1 ns false] : List AV) = ([.rsl 1 ms false, .rsl 1 ns false] : List AV) ∧ (Cx.spec (CS T8) 45 ([.rsl 1 ms false, .rsl 1 ns false] : List AV)) = (some (AV.v (.bool w3)))) (bif w3 then (.done (some (.v (.bool (e2 == firstM [firstM [s1, s2, whenM (Int.ofNat es.length != Int.ofNat fs.length) 2], withinM k (-1000) 1000]))))) else (.done (some (.v (.bool false)))))) else (.done (some (.v (.bool false))))) else (.done (some (.v (.bool false))))) else (.done (some (.v (.bool false))))))) else (.need ((abin (CS T8) BinOp.eql 28 (Operand.tmp 94) (Operand.tmp 95) (AV.agg [.v (.int .i64 x1.fst), .v (.int .i64 x1.snd)]) (AV.agg [.v (.int .i64 0), .v (.int .i64 0)])) = (some (AV.v (.bool q)))) (bif q then (bif n1 == 0 then (bif e1 == firstM [firstM [s1, s2, whenM (Int.ofNat es.length != Int.ofNat fs.length) 2], limM (a, b)] then (.need (([.rsl 1 ms false, .v (.slice none 0 0)] : List AV) = ([.rsl 1 ms false, .v (.slice none 0 0)] : List AV) ∧ (Cx.spec (CS T8) 45 ([.rsl 1 ms false, .v (.slice none 0 0)] : List AV)) = (some (AV.v (.bool w3)))) (bif w3 then (.done (some (.v (.bool (e2 == firstM [firstM [s1, s2, whenM (Int.ofNat es.length != Int.ofNat fs.length) 2], withinM k (-1000) 1000]))))) else (.done (some (.v (.bool false)))))) else (.done (some (.v (.bool false))))) else (.done (some (.v (.bool false))))) else (.done (some (.v (.bool false)))))))))))))))))))) := by kernel_rfl
theorem eqT28 (S : Specs) (xo yo : Operand) (x : P2) : abin (CS S) .eql 28 xo yo (.agg [intA x.1, intA x.2]) (.agg [intA x.1, intA x.2]) = some (gB true) := by
  rw [(eqRa S xo yo _ _ _ _).1, beq_self_eq_true, beq_self_eq_true]; rfl
abbrev jtC : Cod (Int × Int × Int) := aggC (RC.cons intC (RC.cons intC (RC.one intC)))
theorem nest3 (a b c d : Int) : firstM [firstM [a, b, c], d] = firstM [a, b, c, d] := by
  rw [firstB, first3]
  show _ = (bif a != 0 then a else firstM [b, c, d])
  rw [first3, firstB, firstB]
  cases ha : a != 0 <;> cases hb : b != 0 <;> cases hc : c != 0 <;> simp [ha, hb, hc]
theorem specPco {l m : List Int} {k : P2} (h : Nat.ble l.length lim = true) (h2 : Nat.ble m.length lim = true) : pcoG [slA intC 1 l, slA intC 1 m, p2A k] = some (pcoM l m k) := specAt3 (A := intsC) (B := intsC) (D := p2C) (b := fun l m _ => Nat.ble l.length lim && Nat.ble m.length lim) (F := fun l m k => pcoM l m k) l m k (by rw [h, h2]; rfl)
theorem specPmo {l m : List Int} {k : Int} (h : Nat.ble l.length lim = true) (h2 : Nat.ble m.length lim = true) : pmoG [slA intC 1 l, slA intC 1 m, intA k] = some (pmoM l m k) := specAt3 (A := intsC) (B := intsC) (D := intC) (b := fun l m _ => Nat.ble l.length lim && Nat.ble m.length lim) (F := fun l m k => pmoM l m k) l m k (by rw [h, h2]; rfl)
theorem specRcm {l m : List Int} {k : P2} (h : serZ l m k = true) : rcomG [slA intC 1 l, slA intC 1 m, p2A k] = some (rcomM l m k) := specAt3 (A := intsC) (B := intsC) (D := p2C) (b := fun l m k => serZ l m k) (F := fun l m k => rcomM l m k) l m k h
theorem specMom {l m : List Int} {k : Int} (h : momOk l m = true) : momG [slA intC 1 l, slA intC 1 m, intA k] = some (slA intC 1 ((l.zip m).map (momW k))) := specAt3 (A := intsC) (B := intsC) (D := intC) (b := fun l m _ => momOk l m) (F := fun l m k => slA intC 1 ((l.zip m).map (momW k))) l m k h
theorem bnz {e : Int} : (e != 0) = !(e == 0) := rfl
theorem pcoU (l m : List Int) (k : P2) : pcoM l m k = .tup [p2A (bif cErr l m k == 0 then lowM (mostP ((l.zip m).map fun p => numK k (absP p)) 0 (-1, 0)).1 (k.1 * k.2) else (0, 0)), intA (bif cErr l m k == 0 then (mostP ((l.zip m).map fun p => numK k (absP p)) 0 (-1, 0)).2 else 0), intA (cErr l m k)] := by
  unfold pcoM
  rw [bnz]
  cases h : cErr l m k == 0 with
  | true => rw [show cErr l m k = 0 by simpa using h]; rfl
  | false => rfl
theorem pmoU (l m : List Int) (k : Int) : pmoM l m k = .tup [slA intC 1 (bif momErr l m k == 0 then (l.zip m).map (momW k) else []), intA (momErr l m k)] := by
  unfold pmoM
  rw [bnz]
  cases h : momErr l m k == 0 with
  | true => rw [show momErr l m k = 0 by simpa using h]; rfl
  | false => rfl
theorem rcmU {l m : List Int} {k : P2} (h : serZ l m k = true) : rcomM l m k = .tup [p2A (lowM (mostP ((l.zip m).map fun p => numK k (absP p)) 0 (-1, 0)).1 (k.1 * k.2)), intA (mostP ((l.zip m).map fun p => numK k (absP p)) 0 (-1, 0)).2] := by
  obtain ⟨hsl, hsm, hlm, hk⟩ := serZ_iff.1 h
  unfold rcomM
  have hz := zlen hlm
  rw [rat_eq (d := k.1 * k.2) (by have := (prodK hk).1; omega) (l := (l.zip m).map fun p => numK k (absP p)) (by
    intro h0
    have := congrArg List.length h0
    rw [List.length_map, hz] at this
    have h1 := hsl.1
    simp at this
    rw [this] at h1
    simp at h1) (by
    intro x hx
    rw [List.mem_map] at hx
    obtain ⟨p, hp, rfl⟩ := hx
    exact (numR hk (absBnd hsl hsm hp)).1) ((0, 0), 0)]
theorem sameI (l : List Int) : sameM (· == ·) l l = true := sameM_refl (fun x => by simp) l
theorem specSame {l : List Int} (h : Nat.blt l.length two63 = true) : sameG [slA intC 1 l, slA intC 1 l] = some (boolA true) := by
  have h1 := sp2_at (A := intsC) (B := intsC) (F := fun l m => bif Nat.blt l.length two63 then some (boolA (sameM (· == ·) l m)) else none) l l
  rw [h, sameI] at h1; exact h1
theorem specSameN : sameG [slA intC 1 [], nilS] = some (boolA true) := by
  have h1 : intsC.dec (slA intC 1 []) = some [] := intsC.rt []
  have h2 : intsC.dec nilS = some [] := rfl
  simp only [sameG, sp2, h1, h2]
  rfl
def law5G : List AV → Option AV := sp3 intsC intsC jtC fun _ _ _ => some (boolA true)
theorem h5 : Holds 5 law5G := holds3 fun l m j r hr => by
  simp only [Option.some.injEq] at hr; subst hr
  obtain ⟨a, b, q⟩ := j
  generalize hk : (a, b) = k
  obtain rfl : a = k.1 := by rw [← hk]
  obtain rfl : b = k.2 := by rw [← hk]
  have f16 : awakeG [] = some (boolA true) := rfl
  cases hw : shortM l.length with
  | false => exact T8_ok.tr (t5x (l.map intA) (m.map intA) k.1 k.2 q) ⟨⟨rfl, f16⟩, ⟨rfl, by have := specShort l; rw [hw] at this; exact this⟩, rfl⟩
  | true =>
    have f17 := specShort l
    rw [hw] at f17
    refine T8_ok.tr (t5 (l.map intA) (m.map intA) ((bif momErr l m q == 0 then (l.zip m).map (momW q) else []).map intA) (((l.zip m).map (momW q)).map intA) k.1 k.2 q (bif cErr l m k == 0 then (mostP ((l.zip m).map fun p => numK k (absP p)) 0 (-1, 0)).2 else 0) (bif cErr l m k == 0 then (mostP ((l.zip m).map fun p => numK k (absP p)) 0 (-1, 0)).2 else 0) (cErr l m k) (momErr l m q) (seriesM l) (seriesM m)
      (bif cErr l m k == 0 then lowM (mostP ((l.zip m).map fun p => numK k (absP p)) 0 (-1, 0)).1 (k.1 * k.2) else (0, 0)) (bif cErr l m k == 0 then lowM (mostP ((l.zip m).map fun p => numK k (absP p)) 0 (-1, 0)).1 (k.1 * k.2) else (0, 0)) (shortM m.length) true true) ⟨⟨rfl, f16⟩, ⟨rfl, f17⟩, ⟨rfl, specShort m⟩, ?_⟩
    cases hw2 : shortM m.length with
    | false => rfl
    | true =>
      have hb := shortLim hw
      have hb2 := shortLim hw2
      have f39 := specPco (k := k) hb hb2
      have f40 := specPmo (k := q) hb hb2
      rw [pcoU] at f39
      rw [pmoU] at f40
      refine ⟨⟨rfl, specOwn hb⟩, ⟨rfl, specOwn hb2⟩, ⟨rfl, f39⟩, ⟨rfl, specOwn hb⟩, ⟨rfl, specOwn hb2⟩, ⟨rfl, f40⟩, ⟨rfl, specSer hb⟩, ⟨rfl, specSer hb2⟩, ?_⟩
      rw [e_len, e_len, nest3, nest3]
      have eC : firstM [seriesM l, seriesM m, whenM (Int.ofNat l.length != Int.ofNat m.length) 2, limM (k.1, k.2)] = cErr l m k := rfl
      have eM : firstM [seriesM l, seriesM m, whenM (Int.ofNat l.length != Int.ofNat m.length) 2, withinM q (-1000) 1000] = momErr l m q := rfl
      rw [eC, eM]
      have hzl : momErr l m q = 0 → momOk l m = true ∧ Nat.blt ((l.zip m).map (momW q)).length two63 = true := fun h => by
        unfold momErr at h
        rw [firstZ, firstZ, firstZ] at h
        have hlm := whenLen (by omega) h.2.2.1
        refine ⟨by unfold momOk; rw [hlm, beq_self_eq_true, hb2]; rfl, ?_⟩
        rw [List.length_map, zlen hlm]
        have := (seriesZ.1 h.1).2.1
        simp [Nat.blt]; unfold two63; omega
      cases hA : cErr l m k == 0 with
      | true =>
        have hz := cErrZ (show cErr l m k = 0 by simpa using hA)
        have f43 := specRcm hz
        rw [rcmU hz] at f43
        cases hB : momErr l m q == 0 with
        | true =>
          obtain ⟨g1, g2⟩ := hzl (by simpa using hB)
          simp only [cond_true, beq_self_eq_true]
          exact ⟨⟨trivial, f43⟩, ⟨trivial, specMom g1⟩, eqT28 .., ⟨trivial, specSame g2⟩, rfl⟩
        | false =>
          simp only [cond_true, cond_false, beq_self_eq_true]
          exact ⟨⟨trivial, f43⟩, eqT28 .., ⟨trivial, specSameN⟩, rfl⟩
      | false =>
        cases hB : momErr l m q == 0 with
        | true =>
          obtain ⟨g1, g2⟩ := hzl (by simpa using hB)
          simp only [cond_true, cond_false, beq_self_eq_true]
          exact ⟨⟨trivial, specMom g1⟩, eqT28 T8 _ _ (0, 0), ⟨trivial, specSame g2⟩, rfl⟩
        | false =>
          simp only [cond_true, cond_false, beq_self_eq_true]
          exact ⟨eqT28 T8 _ _ (0, 0), ⟨trivial, specSameN⟩, rfl⟩
end Go.Vm.S6
