/- Strings: the program's Parse. -/
import Derived.Test.YtbplbhcgcicgfaaGreatDoorS6ZB3
namespace Go.Vm.S6
open Go.Proofs Go.RowKit
set_option maxRecDepth 100000 in
theorem t85l (m : Int) (s : ByteArray) : evTreeD (CSm m Z5) 60 85 [strA s] [.as 16 true] =
    (.need ((decide (Int.ofNat s.size > 4096)) = true) (.done (some (.tup [.v (.slice none 0 0), .v (.int .i64 0), .v (.int .i64 26)])))) := by kernel_rfl
set_option maxRecDepth 100000 in
theorem t85r (m : Int) (s : ByteArray) (i : Nat) : evTreeD (CSm m Z5) 60 85 [strA s] [.as 16 false, .loop 6 [0, 1] [2, 3, 4, 5, 19, 81] [] [2, 3, 4, 5, 19, 81] .ret [] (br85 (CSm m Z5) (intA (Int.ofNat i)))] =
    (.need ((decide (Int.ofNat s.size > 4096)) = false) (.need (EntClosed [(false, .box [.v (.slice none 0 0)]), (false, .box [.v (.int .i64 0)]), (false, .box [.v (.int .i64 0)]), (false, .box [.v (.slice none 0 0)]), (LB85 (CSm m Z5) none), (false, .box [.v (.string s)])] ∧ EntClosed [(false, .box [.v (.slice none 0 0)]), (false, .box [.v (.int .i64 (Int.ofNat i))]), (false, .box [.v (.int .i64 25)]), (false, .box [.bad]), (LB85 (CSm m Z5) (some (some Code.ret))), (false, .box [.bad])] ∧ Says (CSm m Z5) 6 25 false (.loop (loopOf (CSm m Z5) 172 0)) (mkSt [0, 1] [2, 3, 4, 5, 19, 81] 109 [.yld 19 4, .ptr 81 5 0] [(false, .box [.v (.slice none 0 0)]), (false, .box [.v (.int .i64 0)]), (false, .box [.v (.int .i64 0)]), (false, .box [.v (.slice none 0 0)]), (LB85 (CSm m Z5) none), (false, .box [.v (.string s)])]) .ret (mkSt [] [2, 3, 4, 5, 19, 81] 109 [] [(false, .box [.v (.slice none 0 0)]), (false, .box [.v (.int .i64 (Int.ofNat i))]), (false, .box [.v (.int .i64 25)]), (false, .box [.bad]), (LB85 (CSm m Z5) (some (some Code.ret))), (false, .box [.bad])])) (.done (some (.tup [.v (.slice none 0 0), .v (.int .i64 (Int.ofNat i)), .v (.int .i64 25)]))))) := by kernel_rfl
set_option maxRecDepth 100000 in
theorem t85n (m : Int) (s : ByteArray) (e : Int) : evTreeD (CSm m Z5) 60 85 [strA s] [.as 16 false, .loop 6 [0, 1] [2, 3, 4, 5, 19, 81] [] [2, 3, 4, 5, 19, 81] (.exit 0) [] (bb85 (CSm m Z5) nilS .bad), .sp [nilS] (intA e), .as 75 true] =
    (.need ((decide (Int.ofNat s.size > 4096)) = false) (.need (EntClosed [(false, .box [.v (.slice none 0 0)]), (false, .box [.v (.int .i64 0)]), (false, .box [.v (.int .i64 0)]), (false, .box [.v (.slice none 0 0)]), (LB85 (CSm m Z5) none), (false, .box [.v (.string s)])] ∧ EntClosed [(false, .box [.v (.slice none 0 0)]), (false, .box [.v (.int .i64 0)]), (false, .box [.v (.int .i64 0)]), (false, .box [.v (.slice none 0 0)]), (LB85 (CSm m Z5) none), (false, .box [.bad])] ∧ Says (CSm m Z5) 6 25 false (.loop (loopOf (CSm m Z5) 172 0)) (mkSt [0, 1] [2, 3, 4, 5, 19, 81] 109 [.yld 19 4, .ptr 81 5 0] [(false, .box [.v (.slice none 0 0)]), (false, .box [.v (.int .i64 0)]), (false, .box [.v (.int .i64 0)]), (false, .box [.v (.slice none 0 0)]), (LB85 (CSm m Z5) none), (false, .box [.v (.string s)])]) (.exit 0) (mkSt [] [2, 3, 4, 5, 19, 81] 109 [] [(false, .box [.v (.slice none 0 0)]), (false, .box [.v (.int .i64 0)]), (false, .box [.v (.int .i64 0)]), (false, .box [.v (.slice none 0 0)]), (LB85 (CSm m Z5) none), (false, .box [.bad])])) (.need (asks (CSm m Z5) 141 [.v (.slice none 0 0)] (AV.v (.int .i64 e))) (.need ((e != 0) = true) (.done (some (.tup [.v (.slice none 0 0), .v (.int .i64 (Int.ofNat 0)), .v (.int .i64 e)]))))))) := by kernel_rfl
set_option maxRecDepth 100000 in
theorem t85c (m : Int) (s : ByteArray) (e : Int) (rs : List AV) : evTreeD (CSm m Z5) 60 85 [strA s] [.as 16 false, .loop 6 [0, 1] [2, 3, 4, 5, 19, 81] [] [2, 3, 4, 5, 19, 81] (.exit 0) [] (bb85 (CSm m Z5) (.rsl 3 rs false) .bad), .sp [.rsl 3 rs false] (intA e), .as 75 true] =
    (.need ((decide (Int.ofNat s.size > 4096)) = false) (.need (EntClosed [(false, .box [.v (.slice none 0 0)]), (false, .box [.v (.int .i64 0)]), (false, .box [.v (.int .i64 0)]), (false, .box [.v (.slice none 0 0)]), (LB85 (CSm m Z5) none), (false, .box [.v (.string s)])] ∧ EntClosed [(false, .box [.v (.slice none 0 0)]), (false, .box [.v (.int .i64 0)]), (false, .box [.v (.int .i64 0)]), (false, .box [.rsl 3 rs false]), (LB85 (CSm m Z5) none), (false, .box [.bad])] ∧ Says (CSm m Z5) 6 25 false (.loop (loopOf (CSm m Z5) 172 0)) (mkSt [0, 1] [2, 3, 4, 5, 19, 81] 109 [.yld 19 4, .ptr 81 5 0] [(false, .box [.v (.slice none 0 0)]), (false, .box [.v (.int .i64 0)]), (false, .box [.v (.int .i64 0)]), (false, .box [.v (.slice none 0 0)]), (LB85 (CSm m Z5) none), (false, .box [.v (.string s)])]) (.exit 0) (mkSt [] [2, 3, 4, 5, 19, 81] 109 [] [(false, .box [.v (.slice none 0 0)]), (false, .box [.v (.int .i64 0)]), (false, .box [.v (.int .i64 0)]), (false, .box [.rsl 3 rs false]), (LB85 (CSm m Z5) none), (false, .box [.bad])])) (.need (asks (CSm m Z5) 141 [.rsl 3 rs false] (AV.v (.int .i64 e))) (.need ((e != 0) = true) (.done (some (.tup [.v (.slice none 0 0), .v (.int .i64 (Int.ofNat rs.length)), .v (.int .i64 e)]))))))) := by kernel_rfl
set_option maxRecDepth 100000 in
theorem t85o (m : Int) (s : ByteArray) (e : Int) (rs : List AV) : evTreeD (CSm m Z5) 60 85 [strA s] [.as 16 false, .loop 6 [0, 1] [2, 3, 4, 5, 19, 81] [] [2, 3, 4, 5, 19, 81] (.exit 0) [] (bb85 (CSm m Z5) (.rsl 3 rs false) .bad), .sp [.rsl 3 rs false] (intA e), .as 75 false] =
    (.need ((decide (Int.ofNat s.size > 4096)) = false) (.need (EntClosed [(false, .box [.v (.slice none 0 0)]), (false, .box [.v (.int .i64 0)]), (false, .box [.v (.int .i64 0)]), (false, .box [.v (.slice none 0 0)]), (LB85 (CSm m Z5) none), (false, .box [.v (.string s)])] ∧ EntClosed [(false, .box [.v (.slice none 0 0)]), (false, .box [.v (.int .i64 0)]), (false, .box [.v (.int .i64 0)]), (false, .box [.rsl 3 rs false]), (LB85 (CSm m Z5) none), (false, .box [.bad])] ∧ Says (CSm m Z5) 6 25 false (.loop (loopOf (CSm m Z5) 172 0)) (mkSt [0, 1] [2, 3, 4, 5, 19, 81] 109 [.yld 19 4, .ptr 81 5 0] [(false, .box [.v (.slice none 0 0)]), (false, .box [.v (.int .i64 0)]), (false, .box [.v (.int .i64 0)]), (false, .box [.v (.slice none 0 0)]), (LB85 (CSm m Z5) none), (false, .box [.v (.string s)])]) (.exit 0) (mkSt [] [2, 3, 4, 5, 19, 81] 109 [] [(false, .box [.v (.slice none 0 0)]), (false, .box [.v (.int .i64 0)]), (false, .box [.v (.int .i64 0)]), (false, .box [.rsl 3 rs false]), (LB85 (CSm m Z5) none), (false, .box [.bad])])) (.need (asks (CSm m Z5) 141 [.rsl 3 rs false] (AV.v (.int .i64 e))) (.need ((e != 0) = false) (.done (some (.tup [.rsl 3 rs false, .v (.int .i64 0), .v (.int .i64 0)]))))))) := by kernel_rfl
open Go.Lib
theorem freeze85 {m : Int} {s : ByteArray} {es : List AV} (hc : ClosedL es)
    (h : Says (CSm m Z5) 6 25 false (.loop (loopOf (CSm m Z5) 172 0)) (st85 m s []) (.exit 0) (mkSt [] ([2, 3, 4, 5, 19, 81] ++ [71]) 109 [] (bb85 (CSm m Z5) (.sl 71 6 3 0 es.length) .bad ++ [(false, .arr 3 es false)]))) :
    Says (CSm m Z5) 6 25 false (.loop (loopOf (CSm m Z5) 172 0)) (st85 m s []) (.exit 0) (mkSt [] [2, 3, 4, 5, 19, 81] 109 [] (bb85 (CSm m Z5) (.rsl 3 es false) .bad)) :=
  h.freezeLast (by decide) (by decide) rfl hc .nil
    (.cons (.box (.cons (FzS.cl rfl) .nil)) (.cons (.box (.cons (FzS.cl rfl) .nil)) (.cons (.box (.cons (FzS.cl rfl) .nil)) (.cons (.box (.cons (FzS.sl rfl) .nil))
      (.cons (.loop fun i x' hx => mkT_rel (R := FzS 6 3 es) (.cons (FzS.ptr (by decide)) (.cons (FzS.ptr (by decide)) (.cons (FzS.ptr (by decide)) (.cons (FzS.ptr (by decide)) .nil)))) [2, 3, 4, 5] .leaf .leaf (fun i x' hx => by rw [Tr.get_leaf] at hx; cases hx) i x' hx)
        (.cons (.box (.cons FzS.bad .nil)) .nil))))))
theorem h85 (m : Int) : HoldsM m 85 prsG := holds1 fun s r hr => by
  cases hb : Nat.ble s.size 4097 with
  | false => simp [hb] at hr
  | true =>
    simp only [hb, cond_true, Option.some.injEq] at hr; subst hr
    unfold prsT
    cases h1 : decide (Int.ofNat s.size > 4096) with
    | true => exact (Z5_ok m).tr (t85l m s) ⟨h1, rfl⟩
    | false =>
      rw [cond_false]
      have hs : s.size ≤ 4096 := by simp only [gt_iff_lt, decide_eq_false_iff_not, Int.ofNat_eq_natCast] at h1; omega
      have hl := loop85 m s hs _ (run85s s)
      cases hg : rows87 s with
      | inl i =>
        rw [hg] at hl
        exact (Z5_ok m).tr (t85r m s i) ⟨h1, ⟨trivial, trivial, hl.says⟩, rfl⟩
      | inr rs =>
        rw [hg] at hl
        have hrl := rows_len _ _ _ _ hg
        have hrl : rs.length = (partsB 10 s).dropLast.length := by rw [hrl]; simp
        have hpl : (partsB 10 s).length ≤ s.size + 1 := by unfold partsB; rw [List.length_map]; exact splitL_len 10 s.data.toList
        have hdl : (partsB 10 s).dropLast.length ≤ s.size := by rw [List.length_dropLast]; omega
        simp only at hl ⊢
        cases hn : notNil (lastB s) with
        | true =>
          rw [hn] at hl
          rw [cond_true, ← hrl]
          exact (Z5_ok m).tr (t85r m s rs.length) ⟨h1, ⟨trivial, trivial, hl.says⟩, rfl⟩
        | false =>
          rw [hn] at hl
          rw [cond_false, ← hrl]
          have htb := specTbl (l := rs) (Nat.ble_eq_true_of_le (by unfold lim; omega))
          cases rs with
          | nil =>
            have hne : (tblM [] != 0) = true := rfl
            rw [hne]
            exact (Z5_ok m).tr (t85n m s (tblM [])) ⟨h1, ⟨trivial, trivial, hl.says⟩, ⟨rfl, rfl⟩, hne, rfl⟩
          | cons q r =>
            have hl2 := freeze85 (stCl (q :: r)) hl.says
            cases hc : tblM (q :: r) != 0 with
            | true =>
              have ht := t85c m s (tblM (q :: r)) ((q :: r).map stepC.enc)
              rw [List.length_map] at ht
              exact (Z5_ok m).tr ht ⟨h1, ⟨trivial, trivial, hl2⟩, ⟨rfl, htb⟩, hc, rfl⟩
            | false => exact (Z5_ok m).tr (t85o m s (tblM (q :: r)) ((q :: r).map stepC.enc)) ⟨h1, ⟨trivial, trivial, hl2⟩, ⟨rfl, htb⟩, hc, rfl⟩
def Z6 : Specs := Z5.set 85 prsG
theorem Z6_ok (m : Int) : OkM m Z6 := (Z5_ok m).set (h85 m)
end Go.Vm.S6
