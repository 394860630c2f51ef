/- InjuryJoint. -/
import Derived.Test.YtbplbhcgcicgfaaGreatDoorS6V4
namespace Go.Vm.S6
open Go.Proofs Go.RowKit
set_option maxRecDepth 100000 in
theorem t8x (es fs : List AV) (a b : Int) : evTreeD (CS V4) 60 8 [.rsl 4 es false, .rsl 4 fs false, .agg [intA a, intA b]] [.sp [] (boolA true), .sp [.rsl 4 es false] (boolA false)] =
    (.need (([] : List AV) = ([] : List AV) ∧ (Cx.spec (CS V4) 16 ([] : List AV)) = (some (AV.v (.bool true)))) (.need (([.rsl 4 es false] : List AV) = ([.rsl 4 es false] : List AV) ∧ (Cx.spec (CS V4) 52 ([.rsl 4 es false] : List AV)) = (some (AV.v (.bool false)))) (.done (some (.v (.bool true)))))) := by kernel_rfl
set_option maxRecDepth 100000 in
theorem t8 (es fs : List AV) (a b e1 s1 s2 : Int) (x y : Bd5) (w2 q : Bool) : evTreeD (CS V4) 60 8 [.rsl 4 es false, .rsl 4 fs false, .agg [intA a, intA b]] [.sp [] (boolA true), .sp [.rsl 4 es false] (boolA true), .sp [.rsl 4 fs false] (boolA w2), .br [] [.sp [.rsl 4 es false] (.rsl 4 es false), .sp [.rsl 4 fs false] (.rsl 4 fs false), .sp [.rsl 4 es false, .rsl 4 fs false, .agg [intA a, intA b]] (.tup [bdA x, intA e1]), .sp [.rsl 4 es false] (intA s1), .sp [.rsl 4 fs false] (intA s2), .br [.sp [.rsl 4 es false, .rsl 4 fs false, .agg [intA a, intA b]] (bdA y), .eq (boolA q)] [.eq (boolA q)]]] =
    (.need (([] : List AV) = ([] : List AV) ∧ (Cx.spec (CS V4) 16 ([] : List AV)) = (some (AV.v (.bool true)))) (.need (([.rsl 4 es false] : List AV) = ([.rsl 4 es false] : List AV) ∧ (Cx.spec (CS V4) 52 ([.rsl 4 es false] : List AV)) = (some (AV.v (.bool true)))) (.need (([.rsl 4 fs false] : List AV) = ([.rsl 4 fs false] : List AV) ∧ (Cx.spec (CS V4) 52 ([.rsl 4 fs false] : List AV)) = (some (AV.v (.bool w2)))) (bif !w2 then (.done (some (.v (.bool true)))) else (.need (([.rsl 4 es false] : List AV) = ([.rsl 4 es false] : List AV) ∧ (Cx.spec (CS V4) 54 ([.rsl 4 es false] : List AV)) = (some (AV.rsl 4 es false))) (.need (([.rsl 4 fs false] : List AV) = ([.rsl 4 fs false] : List AV) ∧ (Cx.spec (CS V4) 54 ([.rsl 4 fs false] : List AV)) = (some (AV.rsl 4 fs false))) (.need (([.rsl 4 es false, .rsl 4 fs false, .agg [.v (.int .i64 a), .v (.int .i64 b)]] : List AV) = ([.rsl 4 es false, .rsl 4 fs false, .agg [.v (.int .i64 a), .v (.int .i64 b)]] : List AV) ∧ (Cx.spec (CS V4) 60 ([.rsl 4 es false, .rsl 4 fs false, .agg [.v (.int .i64 a), .v (.int .i64 b)]] : List AV)) = (some (AV.tup [.agg [.v (.int .i64 x.fst.fst), .v (.int .i64 x.fst.snd), .v (.int .i64 x.snd.fst.fst), .v (.int .i64 x.snd.fst.snd), .v (.bool x.snd.snd)], .v (.int .i64 e1)]))) (.need (([.rsl 4 es false] : List AV) = ([.rsl 4 es false] : List AV) ∧ (Cx.spec (CS V4) 56 ([.rsl 4 es false] : List AV)) = (some (AV.v (.int .i64 s1)))) (.need (([.rsl 4 fs false] : List AV) = ([.rsl 4 fs false] : List AV) ∧ (Cx.spec (CS V4) 56 ([.rsl 4 fs false] : List AV)) = (some (AV.v (.int .i64 s2)))) (bif firstM [s1, s2, whenM (Int.ofNat es.length != Int.ofNat fs.length) 2, limM (a, b)] == 0 then (.need (([.rsl 4 es false, .rsl 4 fs false, .agg [.v (.int .i64 a), .v (.int .i64 b)]] : List AV) = ([.rsl 4 es false, .rsl 4 fs false, .agg [.v (.int .i64 a), .v (.int .i64 b)]] : List AV) ∧ (Cx.spec (CS V4) 61 ([.rsl 4 es false, .rsl 4 fs false, .agg [.v (.int .i64 a), .v (.int .i64 b)]] : List AV)) = (some (AV.agg [.v (.int .i64 y.fst.fst), .v (.int .i64 y.fst.snd), .v (.int .i64 y.snd.fst.fst), .v (.int .i64 y.snd.fst.snd), .v (.bool y.snd.snd)]))) (.need ((abin (CS V4) BinOp.eql 91 (Operand.tmp 53) (Operand.tmp 54) (AV.agg [.v (.int .i64 x.fst.fst), .v (.int .i64 x.fst.snd), .v (.int .i64 x.snd.fst.fst), .v (.int .i64 x.snd.fst.snd), .v (.bool x.snd.snd)]) (AV.agg [.v (.int .i64 y.fst.fst), .v (.int .i64 y.fst.snd), .v (.int .i64 y.snd.fst.fst), .v (.int .i64 y.snd.fst.snd), .v (.bool y.snd.snd)])) = (some (AV.v (.bool q)))) (bif q then (.done (some (.v (.bool (e1 == firstM [s1, s2, whenM (Int.ofNat es.length != Int.ofNat fs.length) 2, limM (a, b)]))))) else (.done (some (.v (.bool false))))))) else (.need ((abin (CS V4) BinOp.eql 91 (Operand.tmp 53) (Operand.tmp 54) (AV.agg [.v (.int .i64 x.fst.fst), .v (.int .i64 x.fst.snd), .v (.int .i64 x.snd.fst.fst), .v (.int .i64 x.snd.fst.snd), .v (.bool x.snd.snd)]) (AV.agg [.v (.int .i64 0), .v (.int .i64 0), .v (.int .i64 0), .v (.int .i64 0), .v (.bool false)])) = (some (AV.v (.bool q)))) (bif q then (.done (some (.v (.bool (e1 == firstM [s1, s2, whenM (Int.ofNat es.length != Int.ofNat fs.length) 2, limM (a, b)]))))) else (.done (some (.v (.bool false)))))))))))))))) := by kernel_rfl
theorem eqBd (S : Specs) (xo yo : Operand) (a b c d a' b' c' d' : Int) (o o' : Bool) : abin (CS S) .eql 91 xo yo (.agg [intA a, intA b, intA c, intA d, boolA o]) (.agg [intA a', intA b', intA c', intA d', boolA o']) =
    some (gB ((a == a' && (b == b' && true)) && ((c == c' && (d == d' && true)) && (o == o' && true)))) :=
  (abin_agg rfl rfl (by kernel_rfl) (by kernel_rfl)).1
theorem eqT91 (S : Specs) (xo yo : Operand) (x : Bd5) : abin (CS S) .eql 91 xo yo (bdA x) (bdA x) = some (gB true) := by
  unfold bdA bd5
  rw [eqBd S xo yo _ _ _ _ _ _ _ _ _ _]
  simp only [beq_self_eq_true, Bool.and_true]
theorem specOwnV {l : List Va} (h : Nat.ble l.length lim = true) : ownVG [slA vaC 4 l] = some (slA vaC 4 l) := by
  have h1 := sp1_at (A := vasC) (F := fun l => bif Nat.ble l.length lim then some (slA vaC 4 l) else none) l
  rw [h] at h1; exact h1
theorem specStr (l : List Va) : stTrG [slA vaC 4 l] = some (boolA (shortM l.length)) := sp1_at (A := vasC) (F := fun l => some (boolA (shortM l.length))) l
def law8G : List AV → Option AV := sp3 vasC vasC p2C fun _ _ _ => some (boolA true)
theorem h8 : Holds 8 law8G := holds3 fun l m k r hr => by
  simp only [Option.some.injEq] at hr; subst hr
  have f16 : awakeG [] = some (boolA true) := rfl
  have f52 := specStr l
  cases hw : shortM l.length with
  | false =>
    rw [hw] at f52
    exact V4_ok.tr (t8x (l.map vaC.enc) (m.map vaC.enc) k.1 k.2) ⟨⟨rfl, f16⟩, ⟨rfl, f52⟩, rfl⟩
  | true =>
    rw [hw] at f52
    have ht := t8 (l.map vaC.enc) (m.map vaC.enc) k.1 k.2 (jErr l m k) (trcM l) (trcM m) (bif jErr l m k == 0 then cbB l m k else zB) (bif jErr l m k == 0 then cbB l m k else zB) (shortM m.length) true
    rw [e_len', e_len', show firstM [trcM l, trcM m, whenM (Int.ofNat l.length != Int.ofNat m.length) 2, limM (k.1, k.2)] = jErr l m k from rfl] at ht
    refine V4_ok.tr ht ⟨⟨rfl, f16⟩, ⟨rfl, f52⟩, ⟨rfl, specStr m⟩, ?_⟩
    cases hw2 : shortM m.length with
    | false => rfl
    | true =>
      have hb := shortLim hw
      have hb2 := shortLim hw2
      have f60 : pjbG [slA vaC 4 l, slA vaC 4 m, p2A k] = some (pjbM l m k) := specAt3 (A := vasC) (B := vasC) (D := p2C) (b := fun l m _ => Nat.ble l.length lim && Nat.ble m.length lim) (F := fun l m k => pjbM l m k) l m k (by rw [hb, hb2]; rfl)
      refine ⟨⟨rfl, specOwnV hb⟩, ⟨rfl, specOwnV hb2⟩, ⟨rfl, f60⟩, ⟨rfl, specTrc hb⟩, ⟨rfl, specTrc hb2⟩, ?_⟩
      cases hA : jErr l m k == 0 with
      | true =>
        have f61 : rcbG [slA vaC 4 l, slA vaC 4 m, p2A k] = some (bdA (cbB l m k)) := specAt3 (A := vasC) (B := vasC) (D := p2C) (b := fun l m k => trOk l m k) (F := fun l m k => bd5 (cbV leastV l m k) (cbV mostV l m k) (l.any anyV || m.any anyV)) l m k (jErrZ (by simpa using hA))
        simp only [cond_true, beq_self_eq_true]
        exact ⟨⟨trivial, f61⟩, eqT91 V4 _ _ (cbB l m k), rfl⟩
      | false =>
        simp only [cond_false, beq_self_eq_true]
        exact ⟨eqT91 V4 _ _ zB, rfl⟩
end Go.Vm.S6
