/- Seats: CheckSigns of the reference; listed. -/
import Derived.Test.YtliikgffjphhjaaGreatDoorS3T10
namespace Go.Vm.S3
open Go.Proofs Go.RowKit
set_option maxRecDepth 100000 in
theorem r72n (l : List (ByteArray × Bool)) (m : List (ByteArray × ByteArray)) (fs : List AV) (s : ByteArray × ByteArray) (y : ByteArray × Bool) (k i : Nat) (d w : Bool) (os : List AV) (o : ByteArray) (ps : List ByteArray) : roundD (CS T10) 60 0 72 0 72 72 false (loopOf (CS T10) 72 0) [0, 1, 5] [] [0, 1, 5] [] [4] [] [slA stC 2 l, .rsl 2 fs false, intA (Int.ofNat i)] [] [.br [.chk [sgA s], .sp [slA stC 2 l, strA s.1] (intA (Int.ofNat k)), .chk [sgA s], .br [] [.chk fs, .chk [stA y], .sp [stA y, slA sgC 2 m] (boolA d), .br [] [.sp [slA stC 2 l, slA sgC 2 m] (.rsl 1 os false), .chk [strA o], .chk [sgA s], .br [] [.chk [sgA s], .sp [slA sgC 2 m, strA s.1] (slA strC 1 ps), .chk [sgA s], .sp [slA strC 1 ps, strA s.2] (boolA w)]]]] []] =
    (bif decide (Int.ofNat i < Int.ofNat fs.length) then (.need (fs[i]? = (some (AV.agg [.v (.string s.fst), .v (.string s.snd)]))) (.need (([.rsl 2 (List.map stC.enc l) false, .v (.string s.fst)] : List AV) = ([.rsl 2 (List.map stC.enc l) false, .v (.string s.fst)] : List AV) ∧ (Cx.spec (CS T10) 158 ([.rsl 2 (List.map stC.enc l) false, .v (.string s.fst)] : List AV)) = (some (AV.v (.int .i64 (Int.ofNat k))))) (.need (fs[i]? = (some (AV.agg [.v (.string s.fst), .v (.string s.snd)]))) (bif firstM [whenM (decide (Int.ofNat k < 0)) 10, nameErr s.snd] != 0 then (.need (EntClosed []) (.done (some ((.ret, [.v (.int .i64 (firstM [whenM (decide (Int.ofNat k < 0)) 10, nameErr s.snd]))], []))))) else (.need (0 ≤ i ∧ i ≤ fs.length) (.need (((List.map stC.enc l)[k]?) = (some (AV.agg [.v (.string y.fst), .v (.bool y.snd)]))) (.need (([.agg [.v (.string y.fst), .v (.bool y.snd)], .rsl 2 (List.take (i - 0) (List.drop 0 fs)) false] : List AV) = ([.agg [.v (.string y.fst), .v (.bool y.snd)], .rsl 2 (List.map sgC.enc m) false] : List AV) ∧ (Cx.spec (CS T10) 159 ([.agg [.v (.string y.fst), .v (.bool y.snd)], .rsl 2 (List.map sgC.enc m) false] : List AV)) = (some (AV.v (.bool d)))) (bif d then (.need (EntClosed []) (.done (some ((.ret, [.v (.int .i64 23)], []))))) else (.need (([.rsl 2 (List.map stC.enc l) false, .rsl 2 (List.take (i - 0) (List.drop 0 fs)) false] : List AV) = ([.rsl 2 (List.map stC.enc l) false, .rsl 2 (List.map sgC.enc m) false] : List AV) ∧ (Cx.spec (CS T10) 74 ([.rsl 2 (List.map stC.enc l) false, .rsl 2 (List.take (i - 0) (List.drop 0 fs)) false] : List AV)) = (some (AV.rsl 1 os false))) (.need (os[0]? = (some (AV.v (.string o)))) (.need (fs[i]? = (some (AV.agg [.v (.string s.fst), .v (.string s.snd)]))) (bif !o.toList == s.fst.toList then (.need (EntClosed []) (.done (some ((.ret, [.v (.int .i64 11)], []))))) else (.need (fs[i]? = (some (AV.agg [.v (.string s.fst), .v (.string s.snd)]))) (.need (([.rsl 2 (List.take (i - 0) (List.drop 0 fs)) false, .v (.string s.fst)] : List AV) = ([.rsl 2 (List.map sgC.enc m) false, .v (.string s.fst)] : List AV) ∧ (Cx.spec (CS T10) 160 ([.rsl 2 (List.take (i - 0) (List.drop 0 fs)) false, .v (.string s.fst)] : List AV)) = (some (AV.rsl 1 (List.map strC.enc ps) false))) (.need (fs[i]? = (some (AV.agg [.v (.string s.fst), .v (.string s.snd)]))) (.need (([.rsl 1 (List.map strC.enc ps) false, .v (.string s.snd)] : List AV) = ([.rsl 1 (List.map strC.enc ps) false, .v (.string s.snd)] : List AV) ∧ (Cx.spec (CS T10) 77 ([.rsl 1 (List.map strC.enc ps) false, .v (.string s.snd)] : List AV)) = (some (AV.v (.bool w)))) (bif w then (.need (EntClosed []) (.done (some ((.ret, [.v (.int .i64 9)], []))))) else (.need (EntClosed []) (.done (some ((.nrm, [.rsl 2 (List.map stC.enc l) false, .rsl 2 fs false, .v (.int .i64 (IntKind.i64.wrap (Int.ofNat i + 1)))], [])))))))))))))))))))))) else (.need (EntClosed []) (.done (some (((.exit 0), [.bad], [])))))) := by kernel_rfl
set_option maxRecDepth 100000 in
theorem r72m (l : List (ByteArray × Bool)) (fs : List AV) (s : ByteArray × ByteArray) (i : Nat) : roundD (CS T10) 60 0 72 0 72 72 false (loopOf (CS T10) 72 0) [0, 1, 5] [] [0, 1, 5] [] [4] [] [slA stC 2 l, .rsl 2 fs false, intA (Int.ofNat i)] [] [.br [.chk [sgA s], .sp [slA stC 2 l, strA s.1] (intA (-1)), .chk [sgA s]] []] =
    (bif decide (Int.ofNat i < Int.ofNat fs.length) then (.need (fs[i]? = (some (AV.agg [.v (.string s.fst), .v (.string s.snd)]))) (.need (([.rsl 2 (List.map stC.enc l) false, .v (.string s.fst)] : List AV) = ([.rsl 2 (List.map stC.enc l) false, .v (.string s.fst)] : List AV) ∧ (Cx.spec (CS T10) 158 ([.rsl 2 (List.map stC.enc l) false, .v (.string s.fst)] : List AV)) = (some (AV.v (.int .i64 (-1))))) (.need (fs[i]? = (some (AV.agg [.v (.string s.fst), .v (.string s.snd)]))) (.need (EntClosed []) (.done (some ((.ret, [.v (.int .i64 (firstM [whenM (decide (-1 < 0)) 10, nameErr s.snd]))], [])))))))) else (.need (EntClosed []) (.done (some (((.exit 0), [.bad], [])))))) := by kernel_rfl
set_option maxRecDepth 100000 in
theorem t72r (l : List (ByteArray × Bool)) (fs : List AV) (k : Int) : evTreeD (CS T10) 60 72 [slA stC 2 l, .rsl 2 fs false] [.br [] [.loop 0 [0, 1, 5] [] [4] [] .ret [intA k] []]] =
    (bif decide (Int.ofNat fs.length > 64) then (.done (some (.v (.int .i64 5)))) else (.need (EntClosed [] ∧ EntClosed [] ∧ Says (CS T10) 0 72 false (.loop (loopOf (CS T10) 72 0)) (mkSt [0, 1, 5] [] 72 [.rsl 2 (List.map stC.enc l) false, .rsl 2 fs false, .v (.int .i64 0)] []) .ret (mkSt [4] [] 72 [.v (.int .i64 k)] [])) (.done (some (.v (.int .i64 k)))))) := by kernel_rfl
set_option maxRecDepth 100000 in
theorem t72e (l : List (ByteArray × Bool)) (fs : List AV) : evTreeD (CS T10) 60 72 [slA stC 2 l, .rsl 2 fs false] [.br [] [.loop 0 [0, 1, 5] [] [4] [] (.exit 0) [.bad] []]] =
    (bif decide (Int.ofNat fs.length > 64) then (.done (some (.v (.int .i64 5)))) else (.need (EntClosed [] ∧ EntClosed [] ∧ Says (CS T10) 0 72 false (.loop (loopOf (CS T10) 72 0)) (mkSt [0, 1, 5] [] 72 [.rsl 2 (List.map stC.enc l) false, .rsl 2 fs false, .v (.int .i64 0)] []) (.exit 0) (mkSt [4] [] 72 [.bad] [])) (.done (some (.v (.int .i64 0)))))) := by kernel_rfl
set_option maxRecDepth 100000 in
theorem t31 (l m : List ByteArray) (e bad : Int) (w : Bool) : evTreeD (CS T10) 60 31 [slA strC 1 l, intA e, intA bad, slA strC 1 m] [.br [.sp [slA strC 1 l, .v (.slice none 0 0)] (boolA w)] [.sp [slA strC 1 l, slA strC 1 m] (boolA w)]] =
    (bif bad != 0 then (.need (([.rsl 1 (List.map strC.enc l) false, .v (.slice none 0 0)] : List AV) = ([.rsl 1 (List.map strC.enc l) false, .v (.slice none 0 0)] : List AV) ∧ (Cx.spec (CS T10) 78 ([.rsl 1 (List.map strC.enc l) false, .v (.slice none 0 0)] : List AV)) = (some (AV.v (.bool w)))) (bif w then (.done (some (.v (.bool (e == bad))))) else (.done (some (.v (.bool false)))))) else (.need (([.rsl 1 (List.map strC.enc l) false, .rsl 1 (List.map strC.enc m) false] : List AV) = ([.rsl 1 (List.map strC.enc l) false, .rsl 1 (List.map strC.enc m) false] : List AV) ∧ (Cx.spec (CS T10) 78 ([.rsl 1 (List.map strC.enc l) false, .rsl 1 (List.map strC.enc m) false] : List AV)) = (some (AV.v (.bool w)))) (bif w then (.done (some (.v (.bool (e == bad))))) else (.done (some (.v (.bool false))))))) := by kernel_rfl
/-! ### CheckSigns, of the reference -/
def stepAt (l : List (ByteArray × Bool)) (k : Int) : ByteArray × Bool := (l[k.toNat]?).getD (⟨#[]⟩, false)
def headName (l : List ByteArray) : ByteArray := (l[0]?).getD ⟨#[]⟩
def sgnErr (l : List (ByteArray × Bool)) (m : List (ByteArray × ByteArray)) (i : Nat) (s : ByteArray × ByteArray) : Int :=
  bif firstM [whenM (decide (findM l s.1 < 0)) 10, nameErr s.2] != 0 then firstM [whenM (decide (findM l s.1 < 0)) 10, nameErr s.2]
  else bif doneM (stepAt l (findM l s.1)) (m.take i) then 23 else bif !seq (headName (openM l (m.take i))) s.1 then 11 else bif hasWordM (personsM (m.take i) s.1) s.2 then 9 else 0
def signsM (l : List (ByteArray × Bool)) (m : List (ByteArray × ByteArray)) : Int := bif decide (Int.ofNat m.length > 64) then 5 else srchE (sgnErr l m) m
def signsG : List AV → Option AV := sp2 (listC stC 2) (listC sgC 2) fun l m => bif Nat.ble l.length lim && Nat.ble m.length lim then some (intA (signsM l m)) else none
theorem spec74 {l : List (ByteArray × Bool)} {m : List (ByteArray × ByteArray)} (hl : Nat.ble l.length lim = true) (hm : Nat.ble m.length lim = true) : openG [slA stC 2 l, slA sgC 2 m] = some (slA strC 1 (openM l m)) := by
  have h := sp2_at (A := listC stC 2) (B := listC sgC 2) (F := fun l m => bif Nat.ble l.length lim && Nat.ble m.length lim then some (slA strC 1 (openM l m)) else none) l m
  rw [hl, hm] at h
  exact h
theorem spec77 {l : List ByteArray} {s : ByteArray} (hl : Nat.blt l.length two63 = true) : sp2 (listC strC 1) strC (fun l s => bif Nat.blt l.length two63 then some (boolA (hasWordM l s)) else none) [slA strC 1 l, strA s] = some (boolA (hasWordM l s)) := by
  have h := sp2_at (A := listC strC 1) (B := strC) (F := fun l s => bif Nat.blt l.length two63 then some (boolA (hasWordM l s)) else none) l s
  rw [hl] at h
  exact h
theorem findM_cases (l : List (ByteArray × Bool)) (s : ByteArray) : findM l s = -1 ∨ ∃ k : Nat, findM l s = Int.ofNat k ∧ k < l.length ∧ findIx s (names l) 0 = some k := by
  rw [findM_ix]
  cases hf : findIx s (l.map fun x => x.1) 0 with
  | none => exact .inl rfl
  | some k =>
    have := (findIx_bound hf).2
    rw [Nat.zero_add, List.length_map] at this
    exact .inr ⟨k, rfl, this, hf⟩
theorem open_head {l : List (ByteArray × Bool)} {m : List (ByteArray × ByteArray)} {y : ByteArray × Bool} (hy : y ∈ l) (hd : doneM y m = false) : ∃ o, (openM l m)[0]? = some o := by
  have : y.1 ∈ openM l m := by
    unfold openM
    exact List.mem_map.2 ⟨y, List.mem_filter.2 ⟨hy, by rw [hd]; rfl⟩, rfl⟩
  cases hq : openM l m with
  | nil => rw [hq] at this; cases this
  | cons o r => exact ⟨o, rfl⟩
theorem h72 : Holds 72 signsG := holds2 fun l m r hr => by
  cases hb : Nat.ble l.length lim && Nat.ble m.length lim with
  | false => simp [hb] at hr
  | true =>
    simp only [hb, cond_true, Option.some.injEq] at hr; subst hr
    rw [Bool.and_eq_true] at hb
    have hl := limTwo (Nat.le_of_ble_eq_true hb.1)
    have hm := limTwo (Nat.le_of_ble_eq_true hb.2)
    have e := e_len sgA m
    have h := LoopRun.find (C := CS T10) (p := 0) (nt := 72) (rd := false) (c := loopOf (CS T10) 72 0) (fun i (x : ByteArray × ByteArray) => bif sgnErr l m i x != 0 then some (sgnErr l m i x) else none) (fun i => mkSt [0, 1, 5] [] 72 [slA stC 2 l, .rsl 2 (m.map sgA) false, intA (Int.ofNat i)] [])
      (fun t => mkSt [4] [] 72 [intA t] []) (mkSt [4] [] 72 [.bad] []) (.exit 0) (fun _ => .ret) m (by simp) (by simp)
      (fun i s hx => by
        have hi := lt_len hx
        have g := get_map sgA hx
        have htl : Nat.ble (m.take i).length lim = true := Nat.ble_eq_true_of_le (by rw [List.length_take]; have := Nat.le_of_ble_eq_true hb.2; omega)
        have hpl : (personsM (m.take i) s.1).length ≤ lim := by
          unfold personsM
          rw [List.length_map]
          exact Nat.le_trans (List.length_filter_le _ _) (Nat.le_of_ble_eq_true htl)
        have f1 : Cx.spec (CS T10) 158 ([.rsl 2 (List.map stC.enc l) false, .v (.string s.1)] : List AV) = some (AV.v (.int .i64 (findM l s.1))) := spec158 (s := s.1) (Nat.ble_eq_true_of_le hl)
        rcases findM_cases l s.1 with hk | ⟨k, hk, hkl, _⟩
        · have hbad : sgnErr l m i s = 10 := by
            unfold sgnErr; rw [hk]; rfl
          rw [hbad]
          refine T10_ok.rndR (r72m l (m.map sgA) s i) ?_
          rw [e, lt_of hi]
          rw [hk] at f1
          exact ⟨g, ⟨rfl, f1⟩, g, trivial, rfl⟩
        · have hy : l[k]? = some l[k] := List.getElem?_eq_getElem hkl
          have gy : (List.map stC.enc l)[k]? = some (stA l[k]) := get_map stA hy
          have hst : stepAt l (findM l s.1) = l[k] := by unfold stepAt; rw [hk]; show (l[k]?).getD _ = _; rw [hy]; rfl
          have tk : List.take (i - 0) (List.drop 0 (m.map sgA)) = List.map sgC.enc (m.take i) := take_map sgA m i
          have f2 : Cx.spec (CS T10) 159 ([.agg [.v (.string l[k].1), .v (.bool l[k].2)], .rsl 2 (List.map sgC.enc (m.take i)) false] : List AV) = some (AV.v (.bool (doneM l[k] (m.take i)))) := spec159 (x := l[k]) htl
          have f3 : Cx.spec (CS T10) 74 ([.rsl 2 (List.map stC.enc l) false, .rsl 2 (List.map sgC.enc (m.take i)) false] : List AV) = some (AV.rsl 1 ((openM l (m.take i)).map strA) false) := spec74 hb.1 htl
          have f4 : Cx.spec (CS T10) 160 ([.rsl 2 (List.map sgC.enc (m.take i)) false, .v (.string s.1)] : List AV) = some (AV.rsl 1 (List.map strC.enc (personsM (m.take i) s.1)) false) := spec160 (s := s.1) htl
          have f5 : Cx.spec (CS T10) 77 ([.rsl 1 (List.map strC.enc (personsM (m.take i) s.1)) false, .v (.string s.2)] : List AV) = some (AV.v (.bool (hasWordM (personsM (m.take i) s.1) s.2))) := spec77 (s := s.2) (Nat.ble_eq_true_of_le (limTwo hpl))
          have key := r72n l (m.take i) (m.map sgA) s l[k] k i (doneM l[k] (m.take i)) (hasWordM (personsM (m.take i) s.1) s.2) ((openM l (m.take i)).map strA) (headName (openM l (m.take i))) (personsM (m.take i) s.1)
          rw [tk] at key
          have q1 : (0 ≤ i ∧ i ≤ (m.map sgA).length) := ⟨Nat.zero_le _, by rw [List.length_map]; omega⟩
          rw [hk] at f1
          unfold sgnErr
          rw [hst, hk]
          cases he : firstM [whenM (decide (Int.ofNat k < 0)) 10, nameErr s.2] != 0 with
          | true =>
            rw [cond_true, he, cond_true]
            refine T10_ok.rndR key ?_
            rw [e, lt_of hi, he]
            exact ⟨g, ⟨rfl, f1⟩, g, trivial, rfl⟩
          | false =>
            rw [cond_false]
            cases hd : doneM l[k] (m.take i) with
            | true =>
              refine T10_ok.rndR key ?_
              rw [e, lt_of hi, he]
              rw [hd] at f2
              rw [hd]
              exact ⟨g, ⟨rfl, f1⟩, g, q1, gy, ⟨rfl, f2⟩, trivial, rfl⟩
            | false =>
              obtain ⟨o, ho⟩ := open_head (List.getElem_mem hkl) hd
              have hh : headName (openM l (m.take i)) = o := by unfold headName; rw [ho]; rfl
              have go : ((openM l (m.take i)).map strA)[0]? = some (AV.v (.string o)) := get_map strA ho
              rw [hh] at key ⊢
              rw [hd] at f2 key
              cases hs : seq o s.1 with
              | false =>
                refine T10_ok.rndR key ?_
                rw [e, lt_of hi, he]
                rw [show (o.toList == s.1.toList) = false from hs]
                exact ⟨g, ⟨rfl, f1⟩, g, q1, gy, ⟨rfl, f2⟩, ⟨rfl, f3⟩, go, g, trivial, rfl⟩
              | true =>
                cases hw : hasWordM (personsM (m.take i) s.1) s.2 with
                | true =>
                  refine T10_ok.rndR key ?_
                  rw [hw] at f5
                  rw [e, lt_of hi, he, hw]
                  rw [show (o.toList == s.1.toList) = true from hs]
                  exact ⟨g, ⟨rfl, f1⟩, g, q1, gy, ⟨rfl, f2⟩, ⟨rfl, f3⟩, go, g, g, ⟨rfl, f4⟩, g, ⟨rfl, f5⟩, trivial, rfl⟩
                | false =>
                  refine T10_ok.rndN key ?_
                  rw [hw] at f5
                  rw [e, lt_of hi, he, hw, wrap_ix hi hm]
                  rw [show (o.toList == s.1.toList) = true from hs]
                  exact ⟨g, ⟨rfl, f1⟩, g, q1, gy, ⟨rfl, f2⟩, ⟨rfl, f3⟩, go, g, g, ⟨rfl, f4⟩, g, ⟨rfl, f5⟩, trivial, rfl⟩)
      (T10_ok.rndX (r72m l (m.map sgA) (⟨#[]⟩, ⟨#[]⟩) m.length) (by rw [e, lt_self]; exact ⟨trivial, rfl⟩))
    unfold signsM srchE
    cases hq : decide (Int.ofNat m.length > 64) with
    | true => exact T10_ok.tr (t72e l (m.map sgA)) (by rw [e, hq]; rfl)
    | false =>
      cases hs : srch (fun i (x : ByteArray × ByteArray) => bif sgnErr l m i x != 0 then some (sgnErr l m i x) else none) 0 m with
      | some t => rw [hs] at h; exact T10_ok.tr (t72r l (m.map sgA) t) (by rw [e, hq]; exact ⟨⟨trivial, trivial, h.says⟩, rfl⟩)
      | none => rw [hs] at h; exact T10_ok.tr (t72e l (m.map sgA)) (by rw [e, hq]; exact ⟨⟨trivial, trivial, h.says⟩, rfl⟩)
/-! ### listed -/
def listedM (l : List ByteArray) (e bad : Int) (m : List ByteArray) : Bool := bif sameM seq l (bif bad != 0 then [] else m) then e == bad else false
def listedG : List AV → Option AV := sp4 (listC strC 1) intC intC (listC strC 1) fun l e bad m => bif Nat.blt l.length two63 then some (boolA (listedM l e bad m)) else none
theorem spec78 {l m : List ByteArray} (hl : Nat.blt l.length two63 = true) : sp2 (listC strC 1) (listC strC 1) (fun l m => bif Nat.blt l.length two63 then some (boolA (sameM seq l m)) else none) [slA strC 1 l, slA strC 1 m] = some (boolA (sameM seq l m)) := by
  have h := sp2_at (A := listC strC 1) (B := listC strC 1) (F := fun l m => bif Nat.blt l.length two63 then some (boolA (sameM seq l m)) else none) l m
  rw [hl] at h
  exact h
theorem spec78n {l : List ByteArray} (hl : Nat.blt l.length two63 = true) : sp2 (listC strC 1) (listC strC 1) (fun l m => bif Nat.blt l.length two63 then some (boolA (sameM seq l m)) else none) [slA strC 1 l, .v (.slice none 0 0)] = some (boolA (sameM seq l [])) := by
  have hd : (listC strC 1).dec (slA strC 1 l) = some l := (listC strC 1).rt l
  have hn : (listC strC 1).dec (.v (.slice none 0 0)) = some [] := rfl
  unfold sp2
  simp only [hd, hn, hl, cond_true]
theorem h31 : Holds 31 listedG := holds4 fun l e bad m r hr => by
  cases hb : Nat.blt l.length two63 with
  | false => simp [hb] at hr
  | true =>
    simp only [hb, cond_true, Option.some.injEq] at hr; subst hr
    unfold listedM
    cases hbad : bad != 0 with
    | true =>
      rw [cond_true]
      refine T10_ok.tr (t31 l m e bad (sameM seq l [])) ?_
      rw [hbad]
      have f : Cx.spec (CS T10) 78 ([.rsl 1 (List.map strC.enc l) false, .v (.slice none 0 0)] : List AV) = some (AV.v (.bool (sameM seq l []))) := spec78n hb
      refine ⟨⟨rfl, f⟩, ?_⟩
      cases sameM seq l [] <;> rfl
    | false =>
      rw [cond_false]
      refine T10_ok.tr (t31 l m e bad (sameM seq l m)) ?_
      rw [hbad]
      have f : Cx.spec (CS T10) 78 ([.rsl 1 (List.map strC.enc l) false, .rsl 1 (List.map strC.enc m) false] : List AV) = some (AV.v (.bool (sameM seq l m))) := spec78 hb
      refine ⟨⟨rfl, f⟩, ?_⟩
      cases sameM seq l m <;> rfl
def T11 : Specs := (T10.set 72 signsG).set 31 listedG
theorem T11_ok : Ok T11 := (T10_ok.set h72).set h31
end Go.Vm.S3
