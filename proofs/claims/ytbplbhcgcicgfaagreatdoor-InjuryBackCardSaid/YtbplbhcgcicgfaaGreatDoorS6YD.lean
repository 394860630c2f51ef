/- Strings: a copy of a table; the specifications so far. -/
import Derived.Test.YtbplbhcgcicgfaaGreatDoorS6Y9
namespace Go.Vm.S6
open Go.Proofs Go.RowKit
theorem h89 : Holds 89 ownSG := holds1 fun l r hr => by
  cases hb : Nat.ble l.length lim with
  | false => simp [hb] at hr
  | true =>
    simp only [hb, cond_true, Option.some.injEq] at hr; subst hr
    have hle := Nat.le_of_ble_eq_true hb
    have hlim := limTwo hle
    have e := e_len' stepC l
    have h := LoopRun.gather (C := CS Z1) (p := 0) (nt := 18) (rd := false) (c := loopOf (CS Z1) 89 0) (fun _ p => [p]) 1 (by simp) (fun i (acc : List St3) => blSt 15 3 [3, 6, 7, 8] 18 (fun a => [a, .rsl 3 (l.map stepC.enc) false, intA (Int.ofNat l.length), intA (Int.ofNat i)]) (acc.map stepC.enc)) (.exit 0)
      (fun acc => mkSt [3] [] 18 [.rsl 3 (acc.map stepC.enc) false] []) l (by simp)
      (fun i p acc hx hacc => by
        have hi := lt_len hx
        have hlen : ((acc ++ [p]).map stepC.enc).length ≤ 35184372088832 / 1024 := by simp; unfold lim at hle; omega
        have hw := wrap_ix hi hlim
        cases acc with
        | nil =>
          refine Z1_ok.rndN (r89a (l.map stepC.enc) l.length i p.1 p.2.1 p.2.2) ?_
          rw [lt_of hi, hw]
          exact ⟨get_map _ hx, ⟨closedStep [p], trivial⟩, rfl⟩
        | cons y ys =>
          have e2 : blSt 15 3 [3, 6, 7, 8] 18 (fun a => [a, .rsl 3 (l.map stepC.enc) false, intA (Int.ofNat l.length), intA (Int.ofNat (i + 1))]) (((y :: ys) ++ [p]).map stepC.enc) = mkSt [3, 6, 7, 8] [15] 18 [.sl 15 0 3 0 ((y :: ys).map stepC.enc ++ [stepC.enc p]).length, .rsl 3 (l.map stepC.enc) false, intA (Int.ofNat l.length), intA (Int.ofNat (i + 1))] [(false, .arr 3 ((y :: ys).map stepC.enc ++ [stepC.enc p]) false)] := by
            rw [show ((y :: ys) ++ [p]).map stepC.enc = (y :: ys).map stepC.enc ++ [stepC.enc p] by simp]; rfl
          rw [e2]
          refine Z1_ok.rndN (r89b (l.map stepC.enc) ((y :: ys).map stepC.enc) l.length i ((y :: ys).map stepC.enc).length p.1 p.2.1 p.2.2) ?_
          rw [lt_of hi, hw]
          rw [show ((y :: ys) ++ [p]).map stepC.enc = (y :: ys).map stepC.enc ++ [stepC.enc p] by simp] at hlen
          exact ⟨get_map _ hx, ⟨rfl, rfl, rfl, by change (List.map stepC.enc (y :: ys) ++ [stepC.enc p]).length * 24 ≤ _; omega, by change (List.map stepC.enc (y :: ys) ++ [stepC.enc p]).length ≤ _; omega, by omega⟩, ⟨(closedStep (y :: ys)).append (closedStep [p]), trivial⟩, rfl⟩)
      (fun acc _ => by
        refine Says.blEnd (key := 15) ?_ (closedStep acc)
        cases acc with
        | nil => exact Z1_ok.rndX (r89a (l.map stepC.enc) l.length l.length 0 0 0) (by rw [lt_self]; exact ⟨trivial, rfl⟩)
        | cons y ys => exact Z1_ok.rndX (r89b (l.map stepC.enc) ((y :: ys).map stepC.enc) l.length l.length ((y :: ys).map stepC.enc).length 0 0 0) (by rw [lt_self]; exact ⟨⟨closedStep (y :: ys), trivial⟩, rfl⟩))
    rw [gath_id] at h
    refine Z1_ok.tr (t89 (l.map stepC.enc) (l.map stepC.enc)) ⟨⟨trivial, trivial, ?_⟩, rfl⟩
    rw [List.length_map]
    exact h.says
def Z4 : Specs := (Z3.set 89 ownSG)
theorem Z4_ok : Ok Z4 := (Z3_ok.set h89)
end Go.Vm.S6

namespace Go.Vm.S6
open Go.Proofs Go.RowKit
def tabsM (m : Int) : Tabs := ⟨drawT, preT, keepT, globM m⟩
noncomputable def CSm (m : Int) (S : Specs) : Cx := mkCx Tryz.prog (tabsM m) 2000 (modeS S modeT) (specT S)
set_option maxRecDepth 100000 in
theorem OkM.evD {m : Int} {S : Specs} (h : OkM m S) {f : FuncId} {d : Nat} {hs : List Hn} {l : List AV} {r : AV} (hg : (evTreeD (CSm m S) d f l hs).ok r) : CmpM m f l r :=
  SpecsOk.compD (C := CSm m S) (B := tabsM m) rfl size258 fns mixed h ⟨hg⟩
set_option maxRecDepth 100000 in
theorem OkM.says {m : Int} {S : Specs} (h : OkM m S) {d p fid fb bid nt nf : Nat} {rd : Bool} {ts ts1 ts2 : List Tmp} {ks ks1 ks2 : List Nat} {vs vs1 : List AV} {es es1 : List (Bool × Blk)} {hs : List Hn} {ex : Ex}
    (hr : (roundD (CSm m S) d p fid fb nt nf rd (loopOf (CSm m S) fid bid) ts ks ts1 ks1 ts2 ks2 vs es hs).ok (ex, vs1, es1)) : Says (CSm m S) p nt rd (loopOf (CSm m S) fid bid) (mkSt ts ks nf vs es) ex (endSt ex ts1 ks1 ts2 ks2 nf vs1 es1) :=
  SpecsOk.roundC (C := CSm m S) (B := tabsM m) rfl size258 fns mixed h ⟨hr⟩
theorem OkM.rndN {m : Int} {S : Specs} (h : OkM m S) {d p fid fb bid nt nf : Nat} {rd : Bool} {ts ts1 ts2 : List Tmp} {ks ks1 ks2 : List Nat} {vs vs1 : List AV} {es es1 : List (Bool × Blk)} {hs : List Hn} {t : Dt (Ex × List AV × List (Bool × Blk))}
    (e : roundD (CSm m S) d p fid fb nt nf rd (loopOf (CSm m S) fid bid) ts ks ts1 ks1 ts2 ks2 vs es hs = t) (ht : t.ok (.nrm, vs1, es1)) : Says (CSm m S) p nt rd (loopOf (CSm m S) fid bid) (mkSt ts ks nf vs es) .nrm (mkSt ts1 ks1 nf vs1 es1) :=
  h.says (by rw [e]; exact ht)
theorem OkM.rndR {m : Int} {S : Specs} (h : OkM m S) {d p fid fb bid nt nf : Nat} {rd : Bool} {ts ts1 ts2 : List Tmp} {ks ks1 ks2 : List Nat} {vs vs1 : List AV} {es es1 : List (Bool × Blk)} {hs : List Hn} {t : Dt (Ex × List AV × List (Bool × Blk))}
    (e : roundD (CSm m S) d p fid fb nt nf rd (loopOf (CSm m S) fid bid) ts ks ts1 ks1 ts2 ks2 vs es hs = t) (ht : t.ok (.ret, vs1, es1)) : Says (CSm m S) p nt rd (loopOf (CSm m S) fid bid) (mkSt ts ks nf vs es) .ret (mkSt ts2 ks2 nf vs1 es1) :=
  h.says (by rw [e]; exact ht)
theorem OkM.rndX {m : Int} {S : Specs} (h : OkM m S) {d p fid fb bid nt nf : Nat} {rd : Bool} {ts ts1 ts2 : List Tmp} {ks ks1 ks2 : List Nat} {vs vs1 : List AV} {es es1 : List (Bool × Blk)} {hs : List Hn} {t : Dt (Ex × List AV × List (Bool × Blk))}
    (e : roundD (CSm m S) d p fid fb nt nf rd (loopOf (CSm m S) fid bid) ts ks ts1 ks1 ts2 ks2 vs es hs = t) {i : Nat} (ht : t.ok (.exit i, vs1, es1)) : Says (CSm m S) p nt rd (loopOf (CSm m S) fid bid) (mkSt ts ks nf vs es) (.exit i) (mkSt ts2 ks2 nf vs1 es1) :=
  h.says (by rw [e]; exact ht)
theorem OkM.tr {m : Int} {S : Specs} (h : OkM m S) {f : FuncId} {d : Nat} {hs : List Hn} {l : List AV} {r : AV} {t : Dt AV} (e : evTreeD (CSm m S) d f l hs = t) (ht : t.ok r) : CmpM m f l r := h.evD (by rw [e]; exact ht)
def Z5 : Specs := Z4.set 153 splG
theorem Z5_ok (m : Int) : OkM m Z5 := (Z4_ok.m m).set (h153 m)
end Go.Vm.S6
