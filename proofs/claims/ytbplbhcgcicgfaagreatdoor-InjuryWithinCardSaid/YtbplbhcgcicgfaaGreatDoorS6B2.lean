/- The reference's search; Best, CheckBest. -/
import Derived.Test.YtbplbhcgcicgfaaGreatDoorS6Best
namespace Go.Vm.S6
open Go.Proofs Go.RowKit
set_option maxRecDepth 100000 in
theorem t20 (es : List AV) (lo hi e : Int) (st : BW) : evTreeD (CS B1) 60 20 [.rsl 1 es false, .agg [intA lo, intA hi]] [.sp [.rsl 1 es false] (intA e), .br [] [.sp [.rsl 1 es false, .agg [intA lo, intA hi], fnV 100] (bwA st)]] =
    (.need (([.rsl 1 es false] : List AV) = ([.rsl 1 es false] : List AV) ∧ (Cx.spec (CS B1) 38 ([.rsl 1 es false] : List AV)) = (some (AV.v (.int .i64 e)))) (bif firstM [e, lenM (lo, hi)] != 0 then (.done (some (.tup [.agg [intA 0, intA 0], .agg [intA 0, intA 0], intA (firstM [e, lenM (lo, hi)])]))) else (.need (([.rsl 1 es false, .agg [intA lo, intA hi], .fn (Fn.func 100) [] []] : List AV) = ([.rsl 1 es false, .agg [intA lo, intA hi], .fn (Fn.func 100) [] []] : List AV) ∧ (Cx.spec (CS B1) 99 ([.rsl 1 es false, .agg [intA lo, intA hi], .fn (Fn.func 100) [] []] : List AV)) = (some (AV.tup [.agg [intA st.snd.fst.fst, intA st.snd.fst.snd, intA st.snd.snd.fst, intA st.snd.snd.snd], boolA st.fst]))) (.done (some (.tup [.agg [intA st.snd.fst.fst, intA st.snd.fst.snd], .agg [intA st.snd.snd.fst, intA st.snd.snd.snd], intA (whenM (!st.fst) 16)])))))) := by kernel_rfl
/-! ### The reference's search -/
/-! ### The program's two questions -/
theorem specBest {l : List Int} {k : P2} (h : bwOk l k = true) : bestG [slA intC 1 l, p2A k, fnV 100] = some (bwA (bestB l k)) := specAt3 (A := intsC) (B := p2C) (D := fnC 100) (b := fun l k _ => bwOk l k) (F := fun l k _ => bwA (bestB l k)) l k () h
def bErr (l : List Int) (k : P2) : Int := firstM [seriesM l, lenM k]
theorem bErrZ {l : List Int} {k : P2} (h : bErr l k = 0) : bwOk l k = true := by
  unfold bErr at h
  rw [firstZ, firstZ] at h
  unfold bwOk
  rw [h.1, h.2.1]; rfl
def pbeM (l : List Int) (k : P2) : AV := .tup [p2A (bif bErr l k == 0 then (bestB l k).2.1 else (0, 0)), p2A (bif bErr l k == 0 then (bestB l k).2.2 else (0, 0)), intA (bif bErr l k == 0 then whenM (!(bestB l k).1) 16 else bErr l k)]
def pbeG : List AV → Option AV := sp2 intsC p2C fun l k => bif Nat.ble l.length lim then some (pbeM l k) else none
theorem h20 : Holds 20 pbeG := holds2 fun l k r hr => by
  cases hb : Nat.ble l.length lim with
  | false => simp [hb] at hr
  | true =>
    simp only [hb, cond_true, Option.some.injEq] at hr; subst hr
    have ht := t20 (l.map intA) k.1 k.2 (seriesM l) (bestB l k)
    rw [show firstM [seriesM l, lenM (k.1, k.2)] = bErr l k from rfl, bnz] at ht
    unfold pbeM
    cases hq : bErr l k == 0 with
    | false => rw [hq] at ht; exact B1_ok.tr ht ⟨⟨rfl, specSer hb⟩, rfl⟩
    | true => rw [hq] at ht; exact B1_ok.tr ht ⟨⟨rfl, specSer hb⟩, ⟨rfl, specBest (bErrZ (by simpa using hq))⟩, rfl⟩
def B2 : Specs := (B1.set 20 pbeG)
theorem B2_ok : Ok B2 := (B1_ok.set h20)
end Go.Vm.S6
