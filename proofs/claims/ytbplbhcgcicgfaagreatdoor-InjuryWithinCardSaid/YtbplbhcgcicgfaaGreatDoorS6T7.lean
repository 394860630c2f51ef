/- Combined; awake. -/
import Derived.Test.YtbplbhcgcicgfaaGreatDoorS6T6
import Derived.Test.YtbplbhcgcicgfaaGreatDoorS6Awake
namespace Go.Vm.S6
open Go.Proofs Go.RowKit
set_option maxRecDepth 100000 in
theorem t39 (es fs cs ds : List AV) (a b e1 e2 k : Int) (r : P2) : evTreeD (CS T6) 60 39 [.rsl 1 es false, .rsl 1 fs false, .agg [intA a, intA b]] [.sp [.rsl 1 es false] (intA e1), .sp [.rsl 1 fs false] (intA e2), .br [] [.sp [.rsl 1 es false, fnV 114] (.rsl 1 cs false), .sp [.rsl 1 fs false, fnV 114] (.rsl 1 ds false), .sp [.rsl 1 cs false, .rsl 1 ds false, .agg [intA a, intA b]] (.tup [p2A r, intA k])]] =
    (.need (([.rsl 1 es false] : List AV) = ([.rsl 1 es false] : List AV) ∧ (Cx.spec (CS T6) 38 ([.rsl 1 es false] : List AV)) = (some (AV.v (.int .i64 e1)))) (.need (([.rsl 1 fs false] : List AV) = ([.rsl 1 fs false] : List AV) ∧ (Cx.spec (CS T6) 38 ([.rsl 1 fs false] : List AV)) = (some (AV.v (.int .i64 e2)))) (bif firstM [e1, e2, whenM (Int.ofNat es.length != Int.ofNat fs.length) 2, limM (a, b)] != 0 then (.done (some (.tup [.agg [intA 0, intA 0], intA 0, intA (firstM [e1, e2, whenM (Int.ofNat es.length != Int.ofNat fs.length) 2, limM (a, b)])]))) else (.need (([.rsl 1 es false, .fn (Fn.func 114) [] []] : List AV) = ([.rsl 1 es false, .fn (Fn.func 114) [] []] : List AV) ∧ (Cx.spec (CS T6) 113 ([.rsl 1 es false, .fn (Fn.func 114) [] []] : List AV)) = (some (AV.rsl 1 cs false))) (.need (([.rsl 1 fs false, .fn (Fn.func 114) [] []] : List AV) = ([.rsl 1 fs false, .fn (Fn.func 114) [] []] : List AV) ∧ (Cx.spec (CS T6) 113 ([.rsl 1 fs false, .fn (Fn.func 114) [] []] : List AV)) = (some (AV.rsl 1 ds false))) (.need (([.rsl 1 cs false, .rsl 1 ds false, .agg [intA a, intA b]] : List AV) = ([.rsl 1 cs false, .rsl 1 ds false, .agg [intA a, intA b]] : List AV) ∧ (Cx.spec (CS T6) 112 ([.rsl 1 cs false, .rsl 1 ds false, .agg [intA a, intA b]] : List AV)) = (some (AV.tup [.agg [intA r.fst, intA r.snd], intA k]))) (.done (some (.tup [.agg [intA r.fst, intA r.snd], intA k, intA 0]))))))))) := by kernel_rfl
theorem awake_ok : Cmp 16 [] (boolA true) := SL_ok.tr0 awake_ev
def awakeG : List AV → Option AV
  | [] => some (boolA true)
  | _ => none
theorem h16 : Holds 16 awakeG := fun l r hr => by
  cases l with
  | nil =>
    unfold awakeG at hr
    simp only [Option.some.injEq] at hr; subst hr
    exact awake_ok
  | cons a b => simp [awakeG] at hr
/-! ### Combined -/
theorem specAbs2 {l : List Int} (h : Nat.ble l.length lim = true) : abs113G [slA intC 1 l, fnV 114] = some (slA intC 1 (l.map absW)) := by
  have h1 := sp2_at (A := listC intC 1) (B := fnC 114) (F := fun l _ => bif Nat.ble l.length lim then some (slA intC 1 (l.map absW)) else none) l ()
  rw [h] at h1; exact h1
theorem specComb {l m : List Int} {k : P2} (h : (combOk l m k && !l.isEmpty) = true) : combG [slA intC 1 l, slA intC 1 m, p2A k] = some (combM (l.zip m) k) := by
  have h1 := sp3_at (A := intsC) (B := intsC) (D := p2C) (F := fun l m k => bif combOk l m k && !l.isEmpty then some (combM (l.zip m) k) else none) l m k
  rw [h] at h1; exact h1
def cErr (l m : List Int) (k : P2) : Int := firstM [seriesM l, seriesM m, whenM (Int.ofNat l.length != Int.ofNat m.length) 2, limM k]
theorem cErrZ {l m : List Int} {k : P2} : cErr l m k = 0 → serZ l m k = true := fun h => by
  unfold cErr at h
  rw [firstZ, firstZ, firstZ, firstZ] at h
  rw [serZ_iff]
  exact ⟨seriesZ.1 h.1, seriesZ.1 h.2.1, whenLen (by omega) h.2.2.1, h.2.2.2.1⟩
theorem zipAbs (l m : List Int) : (l.map absW).zip (m.map absW) = (l.zip m).map absP := by rw [List.zip_map]; rfl
def pcoM (l m : List Int) (k : P2) : AV := bif cErr l m k != 0 then .tup [p2A (0, 0), intA 0, intA (cErr l m k)] else .tup [p2A (lowM (mostP ((l.zip m).map fun p => numK k (absP p)) 0 (-1, 0)).1 (k.1 * k.2)), intA (mostP ((l.zip m).map fun p => numK k (absP p)) 0 (-1, 0)).2, intA 0]
def pcoG : List AV → Option AV := sp3 intsC intsC p2C fun l m k => bif Nat.ble l.length lim && Nat.ble m.length lim then some (pcoM l m k) else none
theorem h39 : Holds 39 pcoG := holds3 fun l m k r hr => by
  cases hb : Nat.ble l.length lim && Nat.ble m.length lim with
  | false => simp [hb] at hr
  | true =>
    simp only [hb, cond_true, Option.some.injEq] at hr; subst hr
    rw [Bool.and_eq_true] at hb
    refine T6_ok.tr (t39 (l.map intA) (m.map intA) ((l.map absW).map intA) ((m.map absW).map intA) k.1 k.2 (seriesM l) (seriesM m) (mostP ((l.zip m).map fun p => numK k (absP p)) 0 (-1, 0)).2 (lowM (mostP ((l.zip m).map fun p => numK k (absP p)) 0 (-1, 0)).1 (k.1 * k.2))) ⟨⟨rfl, specSer hb.1⟩, ⟨rfl, specSer hb.2⟩, ?_⟩
    rw [e_len, e_len]
    unfold pcoM
    show (bif cErr l m k != 0 then _ else _ : Dt AV).ok _
    cases hq : cErr l m k != 0 with
    | true => rfl
    | false =>
      have h0 : cErr l m k = 0 := by simpa using hq
      obtain ⟨hsl, hsm, hlm, hk⟩ := serZ_iff.1 (cErrZ h0)
      have hco : (combOk (l.map absW) (m.map absW) k && !(l.map absW).isEmpty) = true := by
        have h1 : (l.map absW).isEmpty = false := by
          cases l with
          | nil => exact absurd hsl.1 (by simp)
          | cons => rfl
        rw [h1]
        unfold combOk
        simp only [Bool.and_eq_true, beq_iff_eq, List.all_eq_true, List.length_map, Bool.not_false, and_true]
        refine ⟨hk, hlm, Nat.ble_eq_true_of_le hsl.2.1, fun p hp => ?_⟩
        rw [zipAbs, List.mem_map] at hp
        obtain ⟨q, hq, rfl⟩ := hp
        exact bndB_iff.2 (absBnd hsl hsm hq)
      have hs := specComb hco
      rw [zipAbs] at hs
      unfold combM at hs
      rw [List.map_map] at hs
      exact ⟨⟨rfl, specAbs2 hb.1⟩, ⟨rfl, specAbs2 hb.2⟩, ⟨rfl, hs⟩, rfl⟩
def T8 : Specs := ((T6.set 16 awakeG).set 39 pcoG)
theorem T8_ok : Ok T8 := ((T6_ok.set h16).set h39)
end Go.Vm.S6
