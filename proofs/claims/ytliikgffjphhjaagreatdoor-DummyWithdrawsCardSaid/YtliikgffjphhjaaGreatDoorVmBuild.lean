/- A loop that appends one element in each round. -/
import Derived.Test.YtliikgffjphhjaaGreatDoorVmH
namespace Go.Vm
theorem gath_map1 {α β : Type} (g : α → β) : ∀ (l : List α) (i : Nat), gath (fun _ x => [g x]) i l = l.map g
 | [], _ => rfl
 | x :: l, i => by unfold gath; rw [gath_map1 g l (i + 1)]; rfl
theorem LoopRun.builds {α β : Type} {C : Cx} {nt : Nat} {rd : Bool} {c : Code} (encB : β → AV) (hB : ∀ m : List β, ClosedL (m.map encB)) (g : α → β) (key sz : Nat) (ts : List Tmp) (nf : Nat) (vs : Nat → AV → List AV) (l : List α) (ex : Ex) (t2 : Tmp) (hx : ex ≠ .nrm)
  (ra : ∀ i x, l[i]? = some x → Says C 0 nt rd c (mkSt ts [] nf (vs i nilS) []) .nrm (mkSt ts [key] nf (vs (i + 1) (.sl key 0 sz 0 1)) [(false, .arr sz [encB (g x)] false)]))
  (rb : ∀ i x (rs : List β), l[i]? = some x → rs.length ≤ i → Says C 0 nt rd c (mkSt ts [key] nf (vs i (.sl key 0 sz 0 (rs.map encB).length)) [(false, .arr sz (rs.map encB) false)]) .nrm
   (mkSt ts [key] nf (vs (i + 1) (.sl key 0 sz 0 (rs.map encB ++ [encB (g x)]).length)) [(false, .arr sz (rs.map encB ++ [encB (g x)]) false)]))
  (xa : Says C 0 nt rd c (mkSt ts [] nf (vs l.length nilS) []) ex (mkSt [t2] [] nf [nilS] []))
  (xb : ∀ rs : List β, Says C 0 nt rd c (mkSt ts [key] nf (vs l.length (.sl key 0 sz 0 (rs.map encB).length)) [(false, .arr sz (rs.map encB) false)]) ex (mkSt [t2] [key] nf [.sl key 0 sz 0 (rs.map encB).length] [(false, .arr sz (rs.map encB) false)])) :
  LoopRun C 0 nt rd c (mkSt ts [] nf (vs 0 nilS) []) ex (mkSt [t2] [] nf [.rsl sz ((l.map g).map encB) false] []) := by
 have h := LoopRun.gather (C := C) (p := 0) (nt := nt) (rd := rd) (c := c) (fun _ x => [g x]) 1 (by simp) (fun i (acc : List β) => blSt key sz ts nf (vs i) (acc.map encB)) ex (fun acc => mkSt [t2] [] nf [.rsl sz (acc.map encB) false] []) l hx
  (fun i x acc hxi hacc => by
   cases acc with
   | nil => exact ra i x hxi
   | cons y ys =>
    have e2 : blSt key sz ts nf (vs (i + 1)) (((y :: ys) ++ [g x]).map encB) = mkSt ts [key] nf (vs (i + 1) (.sl key 0 sz 0 ((y :: ys).map encB ++ [encB (g x)]).length)) [(false, .arr sz ((y :: ys).map encB ++ [encB (g x)]) false)] := by
     rw [show ((y :: ys) ++ [g x]).map encB = (y :: ys).map encB ++ [encB (g x)] by simp]; rfl
    rw [e2]
    exact rb i x (y :: ys) hxi (by rw [Nat.mul_one] at hacc; exact hacc))
  (fun acc _ => by
   refine Says.blEnd (key := key) ?_ (hB acc)
   cases acc with
   | nil => exact xa
   | cons y ys => exact xb (y :: ys))
 rw [gath_map1] at h
 exact h
end Go.Vm
namespace Go.Vm
theorem LoopRun.buildsB {α β : Type} {C : Cx} {p nt : Nat} {rd : Bool} {c : Code} (encB : β → AV) (hB : ∀ m : List β, ClosedL (m.map encB)) (g : α → β) (key sz : Nat) (ts : List Tmp) (ks : List Nat) (nf : Nat) (vs : Nat → AV → List AV) (bs : Nat → AV → List (Bool × Blk)) (l : List α) (ex : Ex)
  (ts2 : List Tmp) (vs2 : AV → List AV) (bs2 : AV → List (Bool × Blk)) (hx : ex ≠ .nrm) (hp : p ≤ ks.length) (hn : nodupN (ks ++ [key]) = true) (hlen : ∀ a, (bs2 a).length = ks.length)
  (hv : ∀ es n, n = es.length → All2 (FzS ks.length sz es) (vs2 (.sl key ks.length sz 0 n)) (vs2 (.rsl sz es false))) (hbb : ∀ es n, n = es.length → All2 (FzB ks.length sz es) (bs2 (.sl key ks.length sz 0 n)) (bs2 (.rsl sz es false)))
  (hv0 : All2 Weak (vs2 nilS) (vs2 (.rsl sz [] false))) (hb0 : All2 WeakB (bs2 nilS) (bs2 (.rsl sz [] false)))
  (ra : ∀ i x, l[i]? = some x → Says C p nt rd c (mkSt ts ks nf (vs i nilS) (bs i nilS)) .nrm (mkSt ts (ks ++ [key]) nf (vs (i + 1) (.sl key ks.length sz 0 1)) (bs (i + 1) (.sl key ks.length sz 0 1) ++ [(false, .arr sz [encB (g x)] false)])))
  (rb : ∀ i x (rs : List β), l[i]? = some x → rs.length ≤ i → Says C p nt rd c (mkSt ts (ks ++ [key]) nf (vs i (.sl key ks.length sz 0 (rs.map encB).length)) (bs i (.sl key ks.length sz 0 (rs.map encB).length) ++ [(false, .arr sz (rs.map encB) false)])) .nrm
   (mkSt ts (ks ++ [key]) nf (vs (i + 1) (.sl key ks.length sz 0 (rs.map encB ++ [encB (g x)]).length)) (bs (i + 1) (.sl key ks.length sz 0 (rs.map encB ++ [encB (g x)]).length) ++ [(false, .arr sz (rs.map encB ++ [encB (g x)]) false)])))
  (xa : Says C p nt rd c (mkSt ts ks nf (vs l.length nilS) (bs l.length nilS)) ex (mkSt ts2 ks nf (vs2 nilS) (bs2 nilS)))
  (xb : ∀ rs : List β, Says C p nt rd c (mkSt ts (ks ++ [key]) nf (vs l.length (.sl key ks.length sz 0 (rs.map encB).length)) (bs l.length (.sl key ks.length sz 0 (rs.map encB).length) ++ [(false, .arr sz (rs.map encB) false)])) ex
   (mkSt ts2 (ks ++ [key]) nf (vs2 (.sl key ks.length sz 0 (rs.map encB).length)) (bs2 (.sl key ks.length sz 0 (rs.map encB).length) ++ [(false, .arr sz (rs.map encB) false)]))) :
  LoopRun C p nt rd c (mkSt ts ks nf (vs 0 nilS) (bs 0 nilS)) ex (mkSt ts2 ks nf (vs2 (.rsl sz ((l.map g).map encB) false)) (bs2 (.rsl sz ((l.map g).map encB) false))) := by
 have h := LoopRun.gather (C := C) (p := p) (nt := nt) (rd := rd) (c := c) (fun _ x => [g x]) 1 (by simp) (fun i (acc : List β) => blG key sz ts ks nf (vs i) (bs i) (acc.map encB)) ex (fun acc => mkSt ts2 ks nf (vs2 (.rsl sz (acc.map encB) false)) (bs2 (.rsl sz (acc.map encB) false))) l hx
  (fun i x acc hxi hacc => by
   cases acc with
   | nil => exact ra i x hxi
   | cons y ys =>
    have e2 : blG key sz ts ks nf (vs (i + 1)) (bs (i + 1)) (((y :: ys) ++ [g x]).map encB) = mkSt ts (ks ++ [key]) nf (vs (i + 1) (.sl key ks.length sz 0 ((y :: ys).map encB ++ [encB (g x)]).length)) (bs (i + 1) (.sl key ks.length sz 0 ((y :: ys).map encB ++ [encB (g x)]).length) ++ [(false, .arr sz ((y :: ys).map encB ++ [encB (g x)]) false)]) := by
     rw [show ((y :: ys) ++ [g x]).map encB = (y :: ys).map encB ++ [encB (g x)] by simp]; rfl
    rw [e2]
    exact rb i x (y :: ys) hxi (by rw [Nat.mul_one] at hacc; exact hacc))
  (fun acc _ => by
   refine Says.blEndG (key := key) (ks := ks) (vs := vs2) (bs := bs2) (acc := acc.map encB) ?_ hp hn hlen (hB acc) (hv _ _ rfl) (hbb _ _ rfl) hv0 hb0
   cases acc with
   | nil => exact xa
   | cons y ys => exact xb (y :: ys))
 rw [gath_map1] at h
 exact h
end Go.Vm
