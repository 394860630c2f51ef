/- The worst of several. -/
import Derived.Test.YtbplbhcgcicgfaaGreatDoorS6R1
namespace Go.Vm.S6
open Go.Proofs Go.RowKit
set_option maxRecDepth 100000 in
theorem r46 (es xs : List AV) (lo hi m u d : Int) (st : BW) (n i : Nat) : roundD (CS R1) 60 0 46 0 59 59 false (loopOf (CS R1) 46 0) [3, 5, 8, 9, 28, 29, 30] [3, 5, 9] [3, 5, 8, 9, 28, 29, 30] [3, 5, 9] [5, 8, 9] [5, 9] [.ptr 3 0 0, .ptr 5 1 0, intA m, .ptr 9 2 0, .rsl 1 es false, intA (Int.ofNat n), intA (Int.ofNat i)] [(false, .box [intA lo, intA hi]), (false, .box [intA 0, intA 0]), (false, .box [intA u, intA d])] [.br [.chk [.rsl 1 xs false], .sp [.rsl 1 xs false, .agg [intA lo, intA hi], fnV 100] (bwA st)] []] =
    (bif decide (Int.ofNat i < Int.ofNat n) then (.need (es[i]? = (some (AV.rsl 1 xs false))) (.need (([.rsl 1 xs false, .agg [.v (.int .i64 lo), .v (.int .i64 hi)], .fn (Fn.func 100) [] []] : List AV) = ([.rsl 1 xs false, .agg [.v (.int .i64 lo), .v (.int .i64 hi)], .fn (Fn.func 100) [] []] : List AV) ∧ (Cx.spec (CS R1) 99 ([.rsl 1 xs false, .agg [.v (.int .i64 lo), .v (.int .i64 hi)], .fn (Fn.func 100) [] []] : List AV)) = (some (AV.tup [.agg [.v (.int .i64 st.snd.fst.fst), .v (.int .i64 st.snd.fst.snd), .v (.int .i64 st.snd.snd.fst), .v (.int .i64 st.snd.snd.snd)], .v (.bool st.fst)]))) (bif !st.fst then (.need (EntClosed [(false, .box [.v (.int .i64 0), .v (.int .i64 0)]), (false, .box [.v (.int .i64 u), .v (.int .i64 d)])]) (.done (some ((.ret, [.ptr 5 0 0, .v (.int .i64 m), .ptr 9 1 0], [(false, .box [.v (.int .i64 0), .v (.int .i64 0)]), (false, .box [.v (.int .i64 u), .v (.int .i64 d)])]))))) else (bif Int.ofNat i == 0 then (.need (EntClosed [(false, .box [.v (.int .i64 lo), .v (.int .i64 hi)]), (false, .box [.v (.int .i64 0), .v (.int .i64 0)]), (false, .box [.v (.int .i64 st.snd.snd.fst), .v (.int .i64 st.snd.snd.snd)])]) (.done (some ((.nrm, [.ptr 3 0 0, .ptr 5 1 0, .v (.int .i64 (Int.ofNat i)), .ptr 9 2 0, .rsl 1 es false, .v (.int .i64 (Int.ofNat n)), .v (.int .i64 (IntKind.i64.wrap (Int.ofNat i + 1)))], [(false, .box [.v (.int .i64 lo), .v (.int .i64 hi)]), (false, .box [.v (.int .i64 0), .v (.int .i64 0)]), (false, .box [.v (.int .i64 st.snd.snd.fst), .v (.int .i64 st.snd.snd.snd)])]))))) else (bif decide (cmpW st.snd.snd (u, d) > 0) then (.need (EntClosed [(false, .box [.v (.int .i64 lo), .v (.int .i64 hi)]), (false, .box [.v (.int .i64 0), .v (.int .i64 0)]), (false, .box [.v (.int .i64 st.snd.snd.fst), .v (.int .i64 st.snd.snd.snd)])]) (.done (some ((.nrm, [.ptr 3 0 0, .ptr 5 1 0, .v (.int .i64 (Int.ofNat i)), .ptr 9 2 0, .rsl 1 es false, .v (.int .i64 (Int.ofNat n)), .v (.int .i64 (IntKind.i64.wrap (Int.ofNat i + 1)))], [(false, .box [.v (.int .i64 lo), .v (.int .i64 hi)]), (false, .box [.v (.int .i64 0), .v (.int .i64 0)]), (false, .box [.v (.int .i64 st.snd.snd.fst), .v (.int .i64 st.snd.snd.snd)])]))))) else (.need (EntClosed [(false, .box [.v (.int .i64 lo), .v (.int .i64 hi)]), (false, .box [.v (.int .i64 0), .v (.int .i64 0)]), (false, .box [.v (.int .i64 u), .v (.int .i64 d)])]) (.done (some ((.nrm, [.ptr 3 0 0, .ptr 5 1 0, .v (.int .i64 m), .ptr 9 2 0, .rsl 1 es false, .v (.int .i64 (Int.ofNat n)), .v (.int .i64 (IntKind.i64.wrap (Int.ofNat i + 1)))], [(false, .box [.v (.int .i64 lo), .v (.int .i64 hi)]), (false, .box [.v (.int .i64 0), .v (.int .i64 0)]), (false, .box [.v (.int .i64 u), .v (.int .i64 d)])])))))))))) else (.need (EntClosed [(false, .box [.v (.int .i64 0), .v (.int .i64 0)]), (false, .box [.v (.int .i64 u), .v (.int .i64 d)])]) (.done (some (((.exit 0), [.ptr 5 0 0, .v (.int .i64 m), .ptr 9 1 0], [(false, .box [.v (.int .i64 0), .v (.int .i64 0)]), (false, .box [.v (.int .i64 u), .v (.int .i64 d)])])))))) := by kernel_rfl
set_option maxRecDepth 100000 in
theorem r46r (es xs : List AV) (lo hi m u d : Int) (st : BW) (n i : Nat) : roundD (CS R1) 60 0 46 0 59 59 false (loopOf (CS R1) 46 0) [3, 5, 8, 9, 28, 29, 30] [3, 5, 9] [3, 5, 8, 9, 28, 29, 30] [3, 5, 9] [4, 5, 6] [5] [.ptr 3 0 0, .ptr 5 1 0, intA m, .ptr 9 2 0, .rsl 1 es false, intA (Int.ofNat n), intA (Int.ofNat i)] [(false, .box [intA lo, intA hi]), (false, .box [intA 0, intA 0]), (false, .box [intA u, intA d])] [.br [.chk [.rsl 1 xs false], .sp [.rsl 1 xs false, .agg [intA lo, intA hi], fnV 100] (bwA st)] []] =
    (bif decide (Int.ofNat i < Int.ofNat n) then (.need (es[i]? = (some (AV.rsl 1 xs false))) (.need (([.rsl 1 xs false, .agg [.v (.int .i64 lo), .v (.int .i64 hi)], .fn (Fn.func 100) [] []] : List AV) = ([.rsl 1 xs false, .agg [.v (.int .i64 lo), .v (.int .i64 hi)], .fn (Fn.func 100) [] []] : List AV) ∧ (Cx.spec (CS R1) 99 ([.rsl 1 xs false, .agg [.v (.int .i64 lo), .v (.int .i64 hi)], .fn (Fn.func 100) [] []] : List AV)) = (some (AV.tup [.agg [.v (.int .i64 st.snd.fst.fst), .v (.int .i64 st.snd.fst.snd), .v (.int .i64 st.snd.snd.fst), .v (.int .i64 st.snd.snd.snd)], .v (.bool st.fst)]))) (bif !st.fst then (.need (EntClosed [(false, .box [.v (.int .i64 0), .v (.int .i64 0)])]) (.done (some ((.ret, [.v (.int .i64 0), .ptr 5 0 0, .v (.int .i64 16)], [(false, .box [.v (.int .i64 0), .v (.int .i64 0)])]))))) else (bif Int.ofNat i == 0 then (.need (EntClosed [(false, .box [.v (.int .i64 lo), .v (.int .i64 hi)]), (false, .box [.v (.int .i64 0), .v (.int .i64 0)]), (false, .box [.v (.int .i64 st.snd.snd.fst), .v (.int .i64 st.snd.snd.snd)])]) (.done (some ((.nrm, [.ptr 3 0 0, .ptr 5 1 0, .v (.int .i64 (Int.ofNat i)), .ptr 9 2 0, .rsl 1 es false, .v (.int .i64 (Int.ofNat n)), .v (.int .i64 (IntKind.i64.wrap (Int.ofNat i + 1)))], [(false, .box [.v (.int .i64 lo), .v (.int .i64 hi)]), (false, .box [.v (.int .i64 0), .v (.int .i64 0)]), (false, .box [.v (.int .i64 st.snd.snd.fst), .v (.int .i64 st.snd.snd.snd)])]))))) else (bif decide (cmpW st.snd.snd (u, d) > 0) then (.need (EntClosed [(false, .box [.v (.int .i64 lo), .v (.int .i64 hi)]), (false, .box [.v (.int .i64 0), .v (.int .i64 0)]), (false, .box [.v (.int .i64 st.snd.snd.fst), .v (.int .i64 st.snd.snd.snd)])]) (.done (some ((.nrm, [.ptr 3 0 0, .ptr 5 1 0, .v (.int .i64 (Int.ofNat i)), .ptr 9 2 0, .rsl 1 es false, .v (.int .i64 (Int.ofNat n)), .v (.int .i64 (IntKind.i64.wrap (Int.ofNat i + 1)))], [(false, .box [.v (.int .i64 lo), .v (.int .i64 hi)]), (false, .box [.v (.int .i64 0), .v (.int .i64 0)]), (false, .box [.v (.int .i64 st.snd.snd.fst), .v (.int .i64 st.snd.snd.snd)])]))))) else (.need (EntClosed [(false, .box [.v (.int .i64 lo), .v (.int .i64 hi)]), (false, .box [.v (.int .i64 0), .v (.int .i64 0)]), (false, .box [.v (.int .i64 u), .v (.int .i64 d)])]) (.done (some ((.nrm, [.ptr 3 0 0, .ptr 5 1 0, .v (.int .i64 m), .ptr 9 2 0, .rsl 1 es false, .v (.int .i64 (Int.ofNat n)), .v (.int .i64 (IntKind.i64.wrap (Int.ofNat i + 1)))], [(false, .box [.v (.int .i64 lo), .v (.int .i64 hi)]), (false, .box [.v (.int .i64 0), .v (.int .i64 0)]), (false, .box [.v (.int .i64 u), .v (.int .i64 d)])])))))))))) else (.need (EntClosed [(false, .box [.v (.int .i64 0), .v (.int .i64 0)])]) (.done (some (((.exit 0), [.bad, .ptr 5 0 0, .bad], [(false, .box [.v (.int .i64 0), .v (.int .i64 0)])])))))) := by kernel_rfl
set_option maxRecDepth 100000 in
theorem t46e (es cs : List AV) (lo hi e m u d : Int) : evTreeD (CS R1) 60 46 [.rsl 1 es false, .agg [intA lo, intA hi]] [.sp [intA (Int.ofNat es.length), intA 8] (intA (manyI (Int.ofNat es.length) 8)), .sp [.rsl 1 es false, fnV 38] (.rsl 1 cs false), .sp [.rsl 1 cs false] (intA e), .br [] [.loop 0 [3, 5, 8, 9, 28, 29, 30] [3, 5, 9] [5, 8, 9] [5, 9] (.exit 0) [.ptr 5 0 0, intA m, .ptr 9 1 0] [(false, .box [intA 0, intA 0]), (false, .box [intA u, intA d])]]] =
    (.need (([.v (.int .i64 (Int.ofNat es.length)), .v (.int .i64 8)] : List AV) = ([.v (.int .i64 (Int.ofNat es.length)), .v (.int .i64 8)] : List AV) ∧ (Cx.spec (CS R1) 109 ([.v (.int .i64 (Int.ofNat es.length)), .v (.int .i64 8)] : List AV)) = (some (AV.v (.int .i64 (manyI (Int.ofNat es.length) 8))))) (.need (([.rsl 1 es false, .fn (Fn.func 38) [] []] : List AV) = ([.rsl 1 es false, .fn (Fn.func 38) [] []] : List AV) ∧ (Cx.spec (CS R1) 118 ([.rsl 1 es false, .fn (Fn.func 38) [] []] : List AV)) = (some (AV.rsl 1 cs false))) (.need (([.rsl 1 cs false] : List AV) = ([.rsl 1 cs false] : List AV) ∧ (Cx.spec (CS R1) 95 ([.rsl 1 cs false] : List AV)) = (some (AV.v (.int .i64 e)))) (bif firstM [manyI (Int.ofNat es.length) 8, e, lenM (lo, hi)] != 0 then (.done (some (.tup [.v (.int .i64 0), .agg [.v (.int .i64 0), .v (.int .i64 0)], .v (.int .i64 (firstM [manyI (Int.ofNat es.length) 8, e, lenM (lo, hi)]))]))) else (.need (EntClosed [(false, .box [.v (.int .i64 lo), .v (.int .i64 hi)]), (false, .box [.v (.int .i64 0), .v (.int .i64 0)]), (false, .box [.v (.int .i64 0), .v (.int .i64 0)])] ∧ EntClosed [(false, .box [.v (.int .i64 0), .v (.int .i64 0)]), (false, .box [.v (.int .i64 u), .v (.int .i64 d)])] ∧ Says (CS R1) 0 59 false (.loop (loopOf (CS R1) 46 0)) (mkSt [3, 5, 8, 9, 28, 29, 30] [3, 5, 9] 59 [.ptr 3 0 0, .ptr 5 1 0, .v (.int .i64 0), .ptr 9 2 0, .rsl 1 es false, .v (.int .i64 (Int.ofNat es.length)), .v (.int .i64 0)] [(false, .box [.v (.int .i64 lo), .v (.int .i64 hi)]), (false, .box [.v (.int .i64 0), .v (.int .i64 0)]), (false, .box [.v (.int .i64 0), .v (.int .i64 0)])]) (.exit 0) (mkSt [5, 8, 9] [5, 9] 59 [.ptr 5 0 0, .v (.int .i64 m), .ptr 9 1 0] [(false, .box [.v (.int .i64 0), .v (.int .i64 0)]), (false, .box [.v (.int .i64 u), .v (.int .i64 d)])])) (.done (some (.tup [.v (.int .i64 m), .agg [.v (.int .i64 u), .v (.int .i64 d)], .v (.int .i64 0)])))))))) := by kernel_rfl
set_option maxRecDepth 100000 in
theorem t46r (es cs : List AV) (lo hi e : Int) : evTreeD (CS R1) 60 46 [.rsl 1 es false, .agg [intA lo, intA hi]] [.sp [intA (Int.ofNat es.length), intA 8] (intA (manyI (Int.ofNat es.length) 8)), .sp [.rsl 1 es false, fnV 38] (.rsl 1 cs false), .sp [.rsl 1 cs false] (intA e), .br [] [.loop 0 [3, 5, 8, 9, 28, 29, 30] [3, 5, 9] [4, 5, 6] [5] .ret [intA 0, .ptr 5 0 0, intA 16] [(false, .box [intA 0, intA 0])]]] =
    (.need (([.v (.int .i64 (Int.ofNat es.length)), .v (.int .i64 8)] : List AV) = ([.v (.int .i64 (Int.ofNat es.length)), .v (.int .i64 8)] : List AV) ∧ (Cx.spec (CS R1) 109 ([.v (.int .i64 (Int.ofNat es.length)), .v (.int .i64 8)] : List AV)) = (some (AV.v (.int .i64 (manyI (Int.ofNat es.length) 8))))) (.need (([.rsl 1 es false, .fn (Fn.func 38) [] []] : List AV) = ([.rsl 1 es false, .fn (Fn.func 38) [] []] : List AV) ∧ (Cx.spec (CS R1) 118 ([.rsl 1 es false, .fn (Fn.func 38) [] []] : List AV)) = (some (AV.rsl 1 cs false))) (.need (([.rsl 1 cs false] : List AV) = ([.rsl 1 cs false] : List AV) ∧ (Cx.spec (CS R1) 95 ([.rsl 1 cs false] : List AV)) = (some (AV.v (.int .i64 e)))) (bif firstM [manyI (Int.ofNat es.length) 8, e, lenM (lo, hi)] != 0 then (.done (some (.tup [.v (.int .i64 0), .agg [.v (.int .i64 0), .v (.int .i64 0)], .v (.int .i64 (firstM [manyI (Int.ofNat es.length) 8, e, lenM (lo, hi)]))]))) else (.need (EntClosed [(false, .box [.v (.int .i64 lo), .v (.int .i64 hi)]), (false, .box [.v (.int .i64 0), .v (.int .i64 0)]), (false, .box [.v (.int .i64 0), .v (.int .i64 0)])] ∧ EntClosed [(false, .box [.v (.int .i64 0), .v (.int .i64 0)])] ∧ Says (CS R1) 0 59 false (.loop (loopOf (CS R1) 46 0)) (mkSt [3, 5, 8, 9, 28, 29, 30] [3, 5, 9] 59 [.ptr 3 0 0, .ptr 5 1 0, .v (.int .i64 0), .ptr 9 2 0, .rsl 1 es false, .v (.int .i64 (Int.ofNat es.length)), .v (.int .i64 0)] [(false, .box [.v (.int .i64 lo), .v (.int .i64 hi)]), (false, .box [.v (.int .i64 0), .v (.int .i64 0)]), (false, .box [.v (.int .i64 0), .v (.int .i64 0)])]) .ret (mkSt [4, 5, 6] [5] 59 [.v (.int .i64 0), .ptr 5 0 0, .v (.int .i64 16)] [(false, .box [.v (.int .i64 0), .v (.int .i64 0)])])) (.done (some (.tup [.v (.int .i64 0), .agg [.v (.int .i64 0), .v (.int .i64 0)], .v (.int .i64 16)])))))))) := by kernel_rfl
def wsErr (ls : List (List Int)) (k : P2) : Int := firstM [manyI (Int.ofNat ls.length) 8, firstM (ls.map seriesM), lenM k]
theorem wsErrZ {ls : List (List Int)} {k : P2} (hb : Nat.ble ls.length lim = true) (h : wsErr ls k = 0) : wsOk ls k = true := by
  unfold wsErr at h
  rw [firstZ, firstZ, firstZ] at h
  unfold wsOk
  rw [hb, h.2.1, h.2.2.1]; rfl
def wsE : Option WS → Int
  | some _ => 0
  | none => 16
def wsV : Option WS → WS
  | some s => s
  | none => (0, (0, 0))
theorem wsT_eq (t : Option WS) : wsT t = .tup [intA (wsV t).1, p2A (wsV t).2, intA (wsE t)] := by cases t <;> rfl
def pwsM (ls : List (List Int)) (k : P2) : AV := .tup [intA (bif wsErr ls k == 0 then (wsV (wstM ls k)).1 else 0), p2A (bif wsErr ls k == 0 then (wsV (wstM ls k)).2 else (0, 0)), intA (bif wsErr ls k == 0 then wsE (wstM ls k) else wsErr ls k)]
def pwsG : List AV → Option AV := sp2 msC p2C fun ls k => bif msOk ls then some (pwsM ls k) else none
def pwsO : Option WS → St
  | some s => mkSt [5, 8, 9] [5, 9] 59 [.ptr 5 0 0, intA s.1, .ptr 9 1 0] [(false, .box [intA 0, intA 0]), (false, .box [intA s.2.1, intA s.2.2])]
  | none => mkSt [4, 5, 6] [5] 59 [intA 0, .ptr 5 0 0, intA 16] [(false, .box [intA 0, intA 0])]
theorem specSerM {ls : List (List Int)} (h : msOk ls = true) : serMG [slA intsC 1 ls, fnV 38] = some (slA intC 1 (ls.map seriesM)) := specAt2 (A := msC) (B := fnC 38) (b := fun ls _ => msOk ls) (F := fun ls _ => slA intC 1 (ls.map seriesM)) ls () h
theorem h46 : Holds 46 pwsG := holds2 fun ls k r hr => by
  cases hb : msOk ls with
  | false => simp [hb] at hr
  | true =>
    simp only [hb, cond_true, Option.some.injEq] at hr; subst hr
    obtain ⟨hb1, hb2⟩ := msOk_at hb
    have hl := limTwo (Nat.le_of_ble_eq_true hb1)
    have e := e_len' intsC ls
    have fm := specMany (Int.ofNat ls.length) 8
    have ff : firstG [slA intC 1 (ls.map seriesM)] = some (intA (firstM (ls.map seriesM))) := specFirst (by rw [List.length_map]; exact hb1)
    have eE : firstM [manyI (Int.ofNat ls.length) 8, firstM (ls.map seriesM), lenM (k.1, k.2)] = wsErr ls k := rfl
    unfold pwsM
    cases hq : wsErr ls k == 0 with
    | false =>
      have ht := t46e (ls.map intsC.enc) ((ls.map seriesM).map intA) k.1 k.2 (firstM (ls.map seriesM)) 0 0 0
      rw [e, eE, bnz, hq] at ht
      exact R1_ok.tr ht ⟨⟨rfl, fm⟩, ⟨rfl, specSerM hb⟩, ⟨rfl, ff⟩, rfl⟩
    | true =>
      obtain ⟨_, hb3⟩ := wsOk_at (wsErrZ hb1 (show wsErr ls k = 0 by simpa using hq))
      have h := LoopRun.list (C := CS R1) (p := 0) (nt := 59) (rd := false) (c := loopOf (CS R1) 46 0) (step := wsS k) (fin := some)
        (enc := fun i s => mkSt [3, 5, 8, 9, 28, 29, 30] [3, 5, 9] 59 [.ptr 3 0 0, .ptr 5 1 0, intA s.1, .ptr 9 2 0, .rsl 1 (ls.map intsC.enc) false, intA (Int.ofNat ls.length), intA (Int.ofNat i)] [(false, .box [intA k.1, intA k.2]), (false, .box [intA 0, intA 0]), (false, .box [intA s.2.1, intA s.2.2])])
        (ex := wsX) (out := pwsO) (l := ls) (fun _ _ => True)
        (fun i l s hx _ => by
          have hi := lt_len hx
          have f99 := specBest (hb3 l (List.mem_of_getElem? hx))
          unfold wsS
          generalize bestB l k = st at *
          obtain ⟨o, sp, ra⟩ := st
          cases o with
          | false =>
            have hr := r46r (ls.map intsC.enc) (l.map intA) k.1 k.2 s.1 s.2.1 s.2.2 (false, sp, ra) ls.length i
            rw [lt_of hi] at hr
            exact ⟨R1_ok.rndR hr ⟨get_map _ hx, ⟨rfl, f99⟩, trivial, rfl⟩, by simp⟩
          | true =>
            have hr := r46 (ls.map intsC.enc) (l.map intA) k.1 k.2 s.1 s.2.1 s.2.2 (true, sp, ra) ls.length i
            rw [lt_of hi, wrap_ix hi hl, show (!(true, sp, ra).1) = false from rfl, i0] at hr
            cases h0 : Nat.beq i 0 with
            | true =>
              rw [h0] at hr
              exact ⟨R1_ok.rndN hr ⟨get_map _ hx, ⟨rfl, f99⟩, trivial, rfl⟩, trivial⟩
            | false =>
              rw [h0] at hr
              cases hg : decide (cmpW ra s.2 > 0) with
              | true =>
                rw [show decide (cmpW (true, sp, ra).2.2 (s.2.1, s.2.2) > 0) = true from hg] at hr
                exact ⟨R1_ok.rndN hr ⟨get_map _ hx, ⟨rfl, f99⟩, trivial, rfl⟩, trivial⟩
              | false =>
                rw [show decide (cmpW (true, sp, ra).2.2 (s.2.1, s.2.2) > 0) = false from hg] at hr
                exact ⟨R1_ok.rndN hr ⟨get_map _ hx, ⟨rfl, f99⟩, trivial, rfl⟩, trivial⟩)
        (fun s _ => ⟨R1_ok.rndX (r46 (ls.map intsC.enc) [] k.1 k.2 s.1 s.2.1 s.2.2 bw0 ls.length ls.length) (by rw [lt_self]; exact ⟨trivial, rfl⟩), by simp⟩) ls [] (0, (0, 0)) rfl trivial
      have h : LoopRun (CS R1) 0 59 false (loopOf (CS R1) 46 0) _ (wsX (wstM ls k)) (pwsO (wstM ls k)) := h
      cases hw : wstM ls k with
      | none =>
        rw [hw] at h
        have ht := t46r (ls.map intsC.enc) ((ls.map seriesM).map intA) k.1 k.2 (firstM (ls.map seriesM))
        rw [e, eE, bnz, hq] at ht
        exact R1_ok.tr ht ⟨⟨rfl, fm⟩, ⟨rfl, specSerM hb⟩, ⟨rfl, ff⟩, ⟨trivial, trivial, h.says⟩, rfl⟩
      | some s =>
        rw [hw] at h
        have ht := t46e (ls.map intsC.enc) ((ls.map seriesM).map intA) k.1 k.2 (firstM (ls.map seriesM)) s.1 s.2.1 s.2.2
        rw [e, eE, bnz, hq] at ht
        exact R1_ok.tr ht ⟨⟨rfl, fm⟩, ⟨rfl, specSerM hb⟩, ⟨rfl, ff⟩, ⟨trivial, trivial, h.says⟩, rfl⟩
theorem nestB (a b c : Int) : firstM [firstM [a, b], c] = firstM [a, b, c] := by
  rw [firstB, firstB, first3, firstB]
/-! ### The law's own loop: none of the series is long -/
def shS (_ : Nat) (x : List Int) : Option Unit := bif shortM x.length then none else some ()
theorem sh_all {ls : List (List Int)} : ∀ {i : Nat}, srch shS i ls = none → ∀ l ∈ ls, shortM l.length = true := by
  induction ls with
  | nil => intro i _ l hl; cases hl
  | cons x r ih =>
    intro i h l hl
    unfold srch at h
    unfold shS at h
    cases hx : shortM x.length with
    | false => rw [hx] at h; simp at h
    | true =>
      rw [hx] at h
      rcases List.mem_cons.1 hl with rfl | hl
      · exact hx
      · exact ih h l hl
def R2 : Specs := R1.set 46 pwsG
theorem R2_ok : Ok R2 := R1_ok.set h46
end Go.Vm.S6
