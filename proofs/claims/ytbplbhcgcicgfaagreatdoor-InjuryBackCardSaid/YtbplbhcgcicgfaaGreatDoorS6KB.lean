/- Ranks: the median's reference. -/
import Derived.Test.YtbplbhcgcicgfaaGreatDoorS6KA
import Derived.Test.YtbplbhcgcicgfaaGreatDoorS6LA
import Derived.Test.YtbplbhcgcicgfaaGreatDoorVmSort
import Derived.Laws.StructEq
import Derived.Test.YtbplbhcgcicgfaaGreatDoorS6M1
import Derived.Test.YtbplbhcgcicgfaaGreatDoorS6YB
namespace Go.Vm.S6
open Go.Proofs Go.RowKit
set_option maxRecDepth 100000 in
theorem t143 (es : List AV) (rs : List AV) (e1 e2 e3 : Int) : evTreeD (CS K1) 60 143 [.rsl 2 es false] [.sp [intA (Int.ofNat es.length), intA 15] (intA e1), .sp [.rsl 2 es false, fnV 102] (.rsl 1 rs false), .sp [.rsl 1 rs false] (intA e2), .sp [.rsl 1 [intA e1, intA e2] true] (intA e3)] =
    (.need (asks (CS K1) 109 [.v (.int .i64 (Int.ofNat es.length)), .v (.int .i64 15)] (AV.v (.int .i64 e1))) (.need (asks (CS K1) 164 [.rsl 2 es false, .fn (Fn.func 102) [] []] (AV.rsl 1 rs false)) (.need (asks (CS K1) 95 [.rsl 1 rs false] (AV.v (.int .i64 e2))) (.need (asks (CS K1) 95 [.rsl 1 [.v (.int .i64 e1), .v (.int .i64 e2)] true] (AV.v (.int .i64 e3))) (.done (some (.v (.int .i64 e3)))))))) := by kernel_rfl
theorem abSub1 {S : Specs} {t : Nat} {n : Nat} (h : n + 1 < two63) : abin (CS S) BinOp.sub 3 (Operand.tmp t) (Operand.const (Value.int IntKind.i64 1)) (AV.v (.int .i64 (Int.ofNat (n + 1)))) (AV.v (.int .i64 1)) = some (AV.v (.int .i64 (Int.ofNat n))) := by
  show some (AV.v (.int .i64 (IntKind.i64.wrap (Int.ofNat (n + 1) - 1)))) = _
  rw [show Int.ofNat (n + 1) - 1 = Int.ofNat n by simp only [Int.ofNat_eq_natCast]; omega, wrapN n (by omega)]
theorem abHalf {S : Specs} {t : Nat} {n : Nat} (h : n < two63) : abin (CS S) BinOp.quo 3 (Operand.tmp t) (Operand.const (Value.int IntKind.i64 2)) (AV.v (.int .i64 (Int.ofNat n))) (AV.v (.int .i64 2)) = some (AV.v (.int .i64 (Int.ofNat (n / 2)))) := by
  show some (AV.v (.int .i64 (IntKind.i64.wrap (Int.tdiv (Int.ofNat n) 2)))) = _
  rw [show Int.tdiv (Int.ofNat n) 2 = Int.ofNat (n / 2) from rfl, wrapN (n / 2) (by unfold two63 at *; omega)]
theorem spCs {l : List P2} (h : Nat.ble l.length lim = true) : csG [slA p2C 2 l] = some (intA (csErr l)) := by
  have := sp1_at (A := ratsC) (F := fun l => bif Nat.ble l.length lim then some (intA (csErr l)) else none) l
  rw [h] at this; exact this
theorem h143 : Holds 143 csG := holds1 fun l r hr => by
  cases hb : Nat.ble l.length lim with
  | false => simp [hb] at hr
  | true =>
    simp only [hb, cond_true, Option.some.injEq] at hr; subst hr
    have hm := specMany (Int.ofNat l.length) 15
    have h1 : rmG [slA p2C 2 l, fnV 102] = some (slA intC 1 (l.map ratErr)) := by
      have := sp2_at (A := ratsC) (B := fnC 102) (F := fun l _ => bif Nat.ble l.length lim then some (slA intC 1 (l.map ratErr)) else none) l ()
      rw [hb] at this; exact this
    have h2 : firstG [slA intC 1 (l.map ratErr)] = some (intA (firstM (l.map ratErr))) := specFirst (by rw [List.length_map]; exact hb)
    have h3 := specFirstT [manyI (Int.ofNat l.length) 15, firstM (l.map ratErr)] rfl
    refine K1_ok.tr (t143 (l.map p2C.enc) ((l.map ratErr).map intA) (manyI (Int.ofNat l.length) 15) (firstM (l.map ratErr)) (csErr l)) ?_
    rw [e_len']
    exact ⟨⟨rfl, hm⟩, ⟨rfl, h1⟩, ⟨rfl, h2⟩, ⟨rfl, h3⟩, rfl⟩
def midI (l : List P2) : Nat := ((rankR (ltI l) l.length l.length)[(l.length - 1) / 2]?).getD 0
theorem midI_at {l : List P2} (h : csErr l = 0) : (rankR (ltI l) l.length l.length)[(l.length - 1) / 2]? = some (midI l) ∧ midI l < l.length ∧ (sortR l)[(l.length - 1) / 2]? = some (atR l (midI l)) := by
  obtain ⟨⟨h1, h2⟩, hv⟩ := csZ.1 h
  obtain ⟨_, _, _, _, _, h5, h6⟩ := rankR_spec (swoR hv) l.length l.length (Nat.le_refl _)
  have e : (rankR (ltI l) l.length l.length)[(l.length - 1) / 2]? = some (midI l) := by
    unfold midI
    rw [List.getElem?_eq_getElem (by rw [h6]; omega)]; rfl
  refine ⟨e, (h5 _ (List.mem_of_getElem? e)).1, ?_⟩
  unfold sortR
  rw [List.getElem?_map, e]; rfl
def K2 : Specs := (K1.set 143 csG)
theorem K2_ok : Ok K2 := (K1_ok.set h143)
end Go.Vm.S6

namespace Go.Vm.S6
open Go.Proofs Go.RowKit
set_option maxRecDepth 100000 in
theorem r75a (es : List AV) (n i : Nat) : roundD (CS K2) 60 0 75 0 26 26 false (loopOf (CS K2) 75 0) [1, 5, 13, 14] [1] [1, 5, 13, 14] [1, 20] [1, 5] [1] [.ptr 1 0 0, nilS, intA (Int.ofNat n), intA (Int.ofNat i)] [(false, .box [.rsl 2 es false])] [.as 15 true] =
    (.need ((decide (Int.ofNat i < Int.ofNat n)) = true) (.need (EntClosed [(false, .box [.rsl 2 es false]), (false, .arr 1 [.v (.int .i64 (Int.ofNat i))] false)]) (.done (some ((.nrm, [.ptr 1 0 0, .sl 20 1 1 0 1, .v (.int .i64 (Int.ofNat n)), .v (.int .i64 (IntKind.i64.wrap (Int.ofNat i + 1)))], [(false, .box [.rsl 2 es false]), (false, .arr 1 [.v (.int .i64 (Int.ofNat i))] false)])))))) := by kernel_rfl
set_option maxRecDepth 100000 in
theorem r75b (es rs : List AV) (n i k : Nat) : roundD (CS K2) 60 0 75 0 26 26 false (loopOf (CS K2) 75 0) [1, 5, 13, 14] [1, 20] [1, 5, 13, 14] [1, 20] [1, 5] [1, 20] [.ptr 1 0 0, .sl 20 1 1 0 k, intA (Int.ofNat n), intA (Int.ofNat i)] [(false, .box [.rsl 2 es false]), (false, .arr 1 rs false)] [.as 15 true, .chk rs] =
    (.need ((decide (Int.ofNat i < Int.ofNat n)) = true) (.need (k = rs.length ∧ true = true ∧ 1 = 1 ∧ (rs ++ ([.v (.int .i64 (Int.ofNat i))] : List AV)).length * 8 ≤ 35184372088832 ∧ (rs ++ ([.v (.int .i64 (Int.ofNat i))] : List AV)).length ≤ 35184372088832 ∧ 8 ≠ 0) (.need (EntClosed [(false, .box [.rsl 2 es false]), (false, .arr 1 (rs ++ ([.v (.int .i64 (Int.ofNat i))] : List AV)) false)]) (.done (some ((.nrm, [.ptr 1 0 0, .sl 20 1 1 0 ((rs ++ ([.v (.int .i64 (Int.ofNat i))] : List AV)).length), .v (.int .i64 (Int.ofNat n)), .v (.int .i64 (IntKind.i64.wrap (Int.ofNat i + 1)))], [(false, .box [.rsl 2 es false]), (false, .arr 1 (rs ++ ([.v (.int .i64 (Int.ofNat i))] : List AV)) false)]))))))) := by kernel_rfl
set_option maxRecDepth 100000 in
theorem r75x (es rs : List AV) (n i k : Nat) : roundD (CS K2) 60 0 75 0 26 26 false (loopOf (CS K2) 75 0) [1, 5, 13, 14] [1, 20] [1, 5, 13, 14] [1, 20] [1, 5] [1, 20] [.ptr 1 0 0, .sl 20 1 1 0 k, intA (Int.ofNat n), intA (Int.ofNat i)] [(false, .box [.rsl 2 es false]), (false, .arr 1 rs false)] [.as 15 false] =
    (.need ((decide (Int.ofNat i < Int.ofNat n)) = false) (.need (EntClosed [(false, .box [.rsl 2 es false]), (false, .arr 1 rs false)]) (.done (some (((.exit 0), [.ptr 1 0 0, .sl 20 1 1 0 k], [(false, .box [.rsl 2 es false]), (false, .arr 1 rs false)])))))) := by kernel_rfl
set_option maxRecDepth 100000 in
theorem r189A (es rs : List AV) (n i m j k : Nat) (x y : Nat) (c : Int) : roundD (CS K2) 60 2 189 98 53 151 false (loopOf (CS K2) 189 2) [0, 1, 2, 3, 8, 9] [1, 20] [0, 1, 2, 3, 8, 9] [1, 20] [0, 1, 2, 3, 8] [1, 20] [.sl 20 1 1 0 k, intA 0, intA (Int.ofNat n), .fn (.func 147) [] [.ptr 1 0 0], intA (Int.ofNat i), intA (Int.ofNat m)] [(false, .box [.rsl 2 es false]), (false, .arr 1 rs false)] [.as 21 true, .chk ([] : List AV), .ld (intA (Int.ofNat x)), .ar (intA (Int.ofNat j)), .chk ([] : List AV), .ld (intA (Int.ofNat y)), .sp [intA (Int.ofNat x), intA (Int.ofNat y), .rptr [.rsl 2 es false]] (intA c), .as 34 true, .ar (intA (Int.ofNat j)), .ar (intA (Int.ofNat j)), .chk ([] : List AV), .ld (intA (Int.ofNat y)), .chk ([] : List AV), .ld (intA (Int.ofNat x)), .chk ([] : List AV), .st (intA (Int.ofNat x)), .chk ([] : List AV), .st (intA (Int.ofNat y)), .ar (intA (Int.ofNat j))] =
    (.need ((decide (Int.ofNat m > 0)) = true) (.need (m < k) (.need (rs[(0 + m)]? = (some (AV.v (.int .i64 (Int.ofNat x))))) (.need ((abin (CS K2) BinOp.sub 3 (Operand.tmp 28) (Operand.const (Value.int IntKind.i64 1)) (AV.v (.int .i64 (Int.ofNat m))) (AV.v (.int .i64 1))) = (some (AV.v (.int .i64 (Int.ofNat j))))) (.need (j < k) (.need (rs[(0 + j)]? = (some (AV.v (.int .i64 (Int.ofNat y))))) (.need (asks (CS K2) 147 [.v (.int .i64 (Int.ofNat x)), .v (.int .i64 (Int.ofNat y)), .rptr [.rsl 2 es false]] (AV.v (.int .i64 c))) (.need ((decide (c < 0)) = true) (.need ((abin (CS K2) BinOp.sub 3 (Operand.tmp 40) (Operand.const (Value.int IntKind.i64 1)) (AV.v (.int .i64 (Int.ofNat m))) (AV.v (.int .i64 1))) = (some (AV.v (.int .i64 (Int.ofNat j))))) (.need ((abin (CS K2) BinOp.sub 3 (Operand.tmp 43) (Operand.const (Value.int IntKind.i64 1)) (AV.v (.int .i64 (Int.ofNat m))) (AV.v (.int .i64 1))) = (some (AV.v (.int .i64 (Int.ofNat j))))) (.need (j < k) (.need (rs[(0 + j)]? = (some (AV.v (.int .i64 (Int.ofNat y))))) (.need (m < k) (.need (rs[(0 + m)]? = (some (AV.v (.int .i64 (Int.ofNat x))))) (.need (m < k) (.need (rs[(0 + m)]? = (some (AV.v (.int .i64 (Int.ofNat x))))) (.need (j < k) (.need ((rs.set ((0 + m)) (.v (.int .i64 (Int.ofNat y))))[(0 + j)]? = (some (AV.v (.int .i64 (Int.ofNat y))))) (.need ((abin (CS K2) BinOp.sub 3 (Operand.tmp 35) (Operand.const (Value.int IntKind.i64 1)) (AV.v (.int .i64 (Int.ofNat m))) (AV.v (.int .i64 1))) = (some (AV.v (.int .i64 (Int.ofNat j))))) (.need (EntClosed [(false, .box [.rsl 2 es false]), (false, .arr 1 ((rs.set ((0 + m)) (.v (.int .i64 (Int.ofNat y)))).set ((0 + j)) (.v (.int .i64 (Int.ofNat x)))) false)]) (.done (some ((.nrm, [.sl 20 1 1 0 k, .v (.int .i64 0), .v (.int .i64 (Int.ofNat n)), .fn (Fn.func 147) [] [.ptr 1 0 0], .v (.int .i64 (Int.ofNat i)), .v (.int .i64 (Int.ofNat j))], [(false, .box [.rsl 2 es false]), (false, .arr 1 ((rs.set ((0 + m)) (.v (.int .i64 (Int.ofNat y)))).set ((0 + j)) (.v (.int .i64 (Int.ofNat x)))) false)])))))))))))))))))))))))) := by kernel_rfl
set_option maxRecDepth 100000 in
theorem r189B (es rs : List AV) (n i m j k : Nat) (x y : Nat) (c : Int) : roundD (CS K2) 60 2 189 98 53 151 false (loopOf (CS K2) 189 2) [0, 1, 2, 3, 8, 9] [1, 20] [0, 1, 2, 3, 8, 9] [1, 20] [0, 1, 2, 3, 8] [1, 20] [.sl 20 1 1 0 k, intA 0, intA (Int.ofNat n), .fn (.func 147) [] [.ptr 1 0 0], intA (Int.ofNat i), intA (Int.ofNat m)] [(false, .box [.rsl 2 es false]), (false, .arr 1 rs false)] [.as 21 true, .chk ([] : List AV), .ld (intA (Int.ofNat x)), .ar (intA (Int.ofNat j)), .chk ([] : List AV), .ld (intA (Int.ofNat y)), .sp [intA (Int.ofNat x), intA (Int.ofNat y), .rptr [.rsl 2 es false]] (intA c), .as 34 false] =
    (.need ((decide (Int.ofNat m > 0)) = true) (.need (m < k) (.need (rs[(0 + m)]? = (some (AV.v (.int .i64 (Int.ofNat x))))) (.need ((abin (CS K2) BinOp.sub 3 (Operand.tmp 28) (Operand.const (Value.int IntKind.i64 1)) (AV.v (.int .i64 (Int.ofNat m))) (AV.v (.int .i64 1))) = (some (AV.v (.int .i64 (Int.ofNat j))))) (.need (j < k) (.need (rs[(0 + j)]? = (some (AV.v (.int .i64 (Int.ofNat y))))) (.need (asks (CS K2) 147 [.v (.int .i64 (Int.ofNat x)), .v (.int .i64 (Int.ofNat y)), .rptr [.rsl 2 es false]] (AV.v (.int .i64 c))) (.need ((decide (c < 0)) = false) (.need (EntClosed [(false, .box [.rsl 2 es false]), (false, .arr 1 rs false)]) (.done (some (((.exit 2), [.sl 20 1 1 0 k, .v (.int .i64 0), .v (.int .i64 (Int.ofNat n)), .fn (Fn.func 147) [] [.ptr 1 0 0], .v (.int .i64 (Int.ofNat i))], [(false, .box [.rsl 2 es false]), (false, .arr 1 rs false)]))))))))))))) := by kernel_rfl
set_option maxRecDepth 100000 in
theorem r189C (es rs : List AV) (n i m k : Nat) : roundD (CS K2) 60 2 189 98 53 151 false (loopOf (CS K2) 189 2) [0, 1, 2, 3, 8, 9] [1, 20] [0, 1, 2, 3, 8, 9] [1, 20] [0, 1, 2, 3, 8] [1, 20] [.sl 20 1 1 0 k, intA 0, intA (Int.ofNat n), .fn (.func 147) [] [.ptr 1 0 0], intA (Int.ofNat i), intA (Int.ofNat m)] [(false, .box [.rsl 2 es false]), (false, .arr 1 rs false)] [.as 21 false] =
    (.need ((decide (Int.ofNat m > 0)) = false) (.need (EntClosed [(false, .box [.rsl 2 es false]), (false, .arr 1 rs false)]) (.done (some (((.exit 2), [.sl 20 1 1 0 k, .v (.int .i64 0), .v (.int .i64 (Int.ofNat n)), .fn (Fn.func 147) [] [.ptr 1 0 0], .v (.int .i64 (Int.ofNat i))], [(false, .box [.rsl 2 es false]), (false, .arr 1 rs false)])))))) := by kernel_rfl
set_option maxRecDepth 100000 in
theorem r189 (es rs qs : List AV) (n i k : Nat) : roundD (CS K2) 60 2 189 98 53 151 false (loopOf (CS K2) 189 0) [0, 1, 2, 3, 8] [1, 20] [0, 1, 2, 3, 8] [1, 20] [] [1, 20] [.sl 20 1 1 0 k, intA 0, intA (Int.ofNat n), .fn (.func 147) [] [.ptr 1 0 0], intA (Int.ofNat i)] [(false, .box [.rsl 2 es false]), (false, .arr 1 rs false)] [.as 14 true, .loop 2 [0, 1, 2, 3, 8, 9] [1, 20] [0, 1, 2, 3, 8] [1, 20] (.exit 2) [.sl 20 1 1 0 k, intA 0, intA (Int.ofNat n), .fn (.func 147) [] [.ptr 1 0 0], intA (Int.ofNat i)] [(false, .box [.rsl 2 es false]), (false, .arr 1 qs false)]] =
    (.need ((decide (Int.ofNat i < Int.ofNat n)) = true) (.need (EntClosed [(false, .box [.rsl 2 es false]), (false, .arr 1 rs false)] ∧ EntClosed [(false, .box [.rsl 2 es false]), (false, .arr 1 qs false)] ∧ Says (CS K2) 2 53 false (.loop (loopOf (CS K2) 189 2)) (mkSt [0, 1, 2, 3, 8, 9] [1, 20] 151 [.sl 20 1 1 0 k, .v (.int .i64 0), .v (.int .i64 (Int.ofNat n)), .fn (Fn.func 147) [] [.ptr 1 0 0], .v (.int .i64 (Int.ofNat i)), .v (.int .i64 (Int.ofNat i))] [(false, .box [.rsl 2 es false]), (false, .arr 1 rs false)]) (.exit 2) (mkSt [0, 1, 2, 3, 8] [1, 20] 151 [.sl 20 1 1 0 k, .v (.int .i64 0), .v (.int .i64 (Int.ofNat n)), .fn (Fn.func 147) [] [.ptr 1 0 0], .v (.int .i64 (Int.ofNat i))] [(false, .box [.rsl 2 es false]), (false, .arr 1 qs false)])) (.need (EntClosed [(false, .box [.rsl 2 es false]), (false, .arr 1 qs false)]) (.done (some ((.nrm, [.sl 20 1 1 0 k, .v (.int .i64 0), .v (.int .i64 (Int.ofNat n)), .fn (Fn.func 147) [] [.ptr 1 0 0], .v (.int .i64 (IntKind.i64.wrap (Int.ofNat i + 1)))], [(false, .box [.rsl 2 es false]), (false, .arr 1 qs false)]))))))) := by kernel_rfl
set_option maxRecDepth 100000 in
theorem r189x (es rs : List AV) (n i k : Nat) : roundD (CS K2) 60 2 189 98 53 151 false (loopOf (CS K2) 189 0) [0, 1, 2, 3, 8] [1, 20] [0, 1, 2, 3, 8] [1, 20] [] [1, 20] [.sl 20 1 1 0 k, intA 0, intA (Int.ofNat n), .fn (.func 147) [] [.ptr 1 0 0], intA (Int.ofNat i)] [(false, .box [.rsl 2 es false]), (false, .arr 1 rs false)] [.as 14 false] =
    (.need ((decide (Int.ofNat i < Int.ofNat n)) = false) (.need (EntClosed [(false, .box [.rsl 2 es false]), (false, .arr 1 rs false)]) (.done (some (((.exit 0), [], [(false, .box [.rsl 2 es false]), (false, .arr 1 rs false)])))))) := by kernel_rfl
set_option maxRecDepth 100000 in
theorem t75e (es : List AV) (e : Int) : evTreeD (CS K2) 60 75 [.rsl 2 es false] [.sp [.rsl 2 es false] (intA e), .as 10 true] =
    (.need (asks (CS K2) 143 [.rsl 2 es false] (AV.v (.int .i64 e))) (.need ((e != 0) = true) (.done (some (.tup [.v (.slice none 0 0), .v (.int .i64 e)]))))) := by kernel_rfl
set_option maxRecDepth 100000 in
theorem t75 (es rs qs : List AV) (e : Int) (k : Nat) : evTreeD (CS K2) 60 75 [.rsl 2 es false] [.sp [.rsl 2 es false] (intA e), .as 10 false, .loop 0 [1, 5, 13, 14] [1] [1, 5] [1, 20] (.exit 0) [.ptr 1 0 0, .sl 20 1 1 0 k] [(false, .box [.rsl 2 es false]), (false, .arr 1 rs false)], .as 13 false, .loop 2 [0, 1, 2, 3, 8] [1, 20] [] [1, 20] (.exit 0) [] [(false, .box [.rsl 2 es false]), (false, .arr 1 qs false)], .as 30 false, .fz 5] =
    (.need (asks (CS K2) 143 [.rsl 2 es false] (AV.v (.int .i64 e))) (.need ((e != 0) = false) (.need (EntClosed [(false, .box [.rsl 2 es false])] ∧ EntClosed [(false, .box [.rsl 2 es false]), (false, .arr 1 rs false)] ∧ Says (CS K2) 0 26 false (.loop (loopOf (CS K2) 75 0)) (mkSt [1, 5, 13, 14] [1] 26 [.ptr 1 0 0, .v (.slice none 0 0), .v (.int .i64 (Int.ofNat es.length)), .v (.int .i64 0)] [(false, .box [.rsl 2 es false])]) (.exit 0) (mkSt [1, 5] [1, 20] 26 [.ptr 1 0 0, .sl 20 1 1 0 k] [(false, .box [.rsl 2 es false]), (false, .arr 1 rs false)])) (.need ((decide (20 ≤ Int.ofNat k)) = false) (.need (EntClosed [(false, .box [.rsl 2 es false]), (false, .arr 1 rs false)] ∧ EntClosed [(false, .box [.rsl 2 es false]), (false, .arr 1 qs false)] ∧ Says (CS K2) 2 53 false (.loop (loopOf (CS K2) 189 0)) (mkSt [0, 1, 2, 3, 8] [1, 20] 151 [.sl 20 1 1 0 k, .v (.int .i64 0), .v (.int .i64 (Int.ofNat k)), .fn (Fn.func 147) [] [.ptr 1 0 0], .v (.int .i64 (IntKind.i64.wrap (0 + 1)))] [(false, .box [.rsl 2 es false]), (false, .arr 1 rs false)]) (.exit 0) (mkSt [] [1, 20] 151 [] [(false, .box [.rsl 2 es false]), (false, .arr 1 qs false)])) (.need ((decide (20 < Int.ofNat k)) = false) (.need (ClosedL qs ∧ k = qs.length) (.done (some (.tup [.rsl 1 qs false, .v (.int .i64 0)])))))))))) := by kernel_rfl
set_option maxRecDepth 100000 in
theorem t73e (es : List AV) (e : Int) : evTreeD (CS K2) 60 73 [.rsl 2 es false] [.sp [.rsl 2 es false] (intA e), .as 9 true] =
    (.need (asks (CS K2) 143 [.rsl 2 es false] (AV.v (.int .i64 e))) (.need ((e != 0) = true) (.done (some (.tup [.agg [.v (.int .i64 0), .v (.int .i64 0)], .v (.int .i64 e)]))))) := by kernel_rfl
set_option maxRecDepth 100000 in
theorem t73 (x0 : P2) (es qs : List AV) (i j : Nat) (e a b : Int) : evTreeD (CS K2) 60 73 [.rsl 2 (p2A x0 :: es) false] [.sp [.rsl 2 (p2A x0 :: es) false] (intA e), .as 9 false, .chk ([] : List AV), .ef qs, .ar (intA (Int.ofNat i)), .dv (intA (Int.ofNat j)), .chk ([] : List AV), .ld (.agg [intA a, intA b])] =
    (.need (asks (CS K2) 143 [.rsl 2 (.agg [.v (.int .i64 x0.fst), .v (.int .i64 x0.snd)] :: es) false] (AV.v (.int .i64 e))) (.need ((e != 0) = false) (.need ((allSz 2 (.agg [.v (.int .i64 x0.fst), .v (.int .i64 x0.snd)] :: es)) = true ∧ 2 = 2 ∧ (([] : List AV) ++ (.agg [.v (.int .i64 x0.fst), .v (.int .i64 x0.snd)] :: es)).length * 16 ≤ 35184372088832 ∧ (([] : List AV) ++ (.agg [.v (.int .i64 x0.fst), .v (.int .i64 x0.snd)] :: es)).length ≤ 35184372088832 ∧ 16 ≠ 0) (.need ((([] : List AV) ++ (.agg [.v (.int .i64 x0.fst), .v (.int .i64 x0.snd)] :: es)).length = (([] : List AV) ++ (.agg [.v (.int .i64 x0.fst), .v (.int .i64 x0.snd)] :: es)).length ∧ WrOk (CS K2) 145 2 (([] : List AV) ++ (.agg [.v (.int .i64 x0.fst), .v (.int .i64 x0.snd)] :: es)) ([.fn (Fn.func 119) [] []] : List AV) qs) (.need ((abin (CS K2) BinOp.sub 3 (Operand.tmp 18) (Operand.const (Value.int IntKind.i64 1)) (AV.v (.int .i64 (Int.ofNat (List.replicate 0 (ofV (Value.agg #[Value.int IntKind.i64 0, Value.int IntKind.i64 0])) ++ p2A x0 :: es).length))) (AV.v (.int .i64 1))) = (some (AV.v (.int .i64 (Int.ofNat i))))) (.need ((abin (CS K2) BinOp.quo 3 (Operand.tmp 19) (Operand.const (Value.int IntKind.i64 2)) (AV.v (.int .i64 (Int.ofNat i))) (AV.v (.int .i64 2))) = (some (AV.v (.int .i64 (Int.ofNat j))))) (.need (j < (([] : List AV) ++ (.agg [.v (.int .i64 x0.fst), .v (.int .i64 x0.snd)] :: es)).length) (.need (qs[(0 + j)]? = (some (AV.agg [.v (.int .i64 a), .v (.int .i64 b)]))) (.done (some (.tup [.agg [.v (.int .i64 a), .v (.int .i64 b)], .v (.int .i64 0)]))))))))))) := by kernel_rfl
/-! ### The insertion sort -/
def rndI (lt : Nat → Nat → Bool) : Nat × List Nat → (Nat × List Nat) ⊕ List Nat
  | (0, d) => .inr d
  | (j + 1, d) => match d[j + 1]?, d[j]? with
    | some x, some y => bif lt x y then .inl (j, (d.set (j + 1) y).set j x) else .inr d
    | _, _ => .inr d
theorem rndI_at {lt : Nat → Nat → Bool} {j x y : Nat} {d : List Nat} (h1 : d[j + 1]? = some x) (h2 : d[j]? = some y) : rndI lt (j + 1, d) = bif lt x y then .inl (j, (d.set (j + 1) y).set j x) else .inr d := by
  simp only [rndI, h1, h2]
theorem rndI_no {lt : Nat → Nat → Bool} {j : Nat} {d : List Nat} (h : (match d[j + 1]?, d[j]? with | some _, some _ => false | _, _ => true) = true) : rndI lt (j + 1, d) = .inr d := by
  cases h1 : d[j + 1]? with
  | none => simp only [rndI, h1]
  | some x =>
    cases h2 : d[j]? with
    | none => simp only [rndI, h1, h2]
    | some y => rw [h1, h2] at h; cases h
theorem rndI_run (lt : Nat → Nat → Bool) : ∀ (j : Nat) (d : List Nat), goW (rndI lt) (j + 1) (j, d) = some (innM lt j d)
  | 0, d => rfl
  | j + 1, d => by
    rw [goW]
    cases h1 : d[j + 1]? with
    | none => rw [rndI_no (by rw [h1])]; unfold innM; rw [h1]
    | some x =>
      cases h2 : d[j]? with
      | none => rw [rndI_no (by rw [h1, h2])]; unfold innM; rw [h1, h2]
      | some y =>
        rw [rndI_at h1 h2]
        unfold innM
        rw [h1, h2]
        simp only
        cases hl : lt x y with
        | true => rw [cond_true, cond_true]; exact rndI_run lt j _
        | false => rfl
def insD (lt : Nat → Nat → Bool) (n : Nat) : Nat → List Nat
  | 0 => List.range n
  | i + 1 => innM lt (i + 1) (insD lt n i)
theorem sortM_snoc (lt : Nat → Nat → Bool) (x : Nat) : ∀ (t acc : List Nat), sortM lt acc (t ++ [x]) = insR lt x (sortM lt acc t)
  | [], _ => rfl
  | y :: t, acc => sortM_snoc lt x t (insR lt y acc)
theorem insD_eq (lt : Nat → Nat → Bool) (n : Nat) : ∀ i, i + 1 ≤ n → insD lt n i = (sortM lt [] (List.range' 0 (i + 1))).reverse ++ List.range' (i + 1) (n - (i + 1))
  | 0, h => by
    obtain ⟨m, rfl⟩ : ∃ m, n = m + 1 := ⟨n - 1, by omega⟩
    show List.range (m + 1) = _
    rw [List.range_eq_range', List.range'_succ]; rfl
  | i + 1, h => by
    have ih := insD_eq lt n i (by omega)
    have hlen : (sortM lt [] (List.range' 0 (i + 1))).length = i + 1 := by
      rw [(sortM_perm lt (List.range' 0 (i + 1)) []).length_eq]; simp
    show innM lt (i + 1) (insD lt n i) = _
    rw [ih, show List.range' (i + 1) (n - (i + 1)) = (i + 1) :: List.range' (i + 1 + 1) (n - (i + 1 + 1)) by rw [show n - (i + 1) = (n - (i + 1 + 1)) + 1 by omega, List.range'_succ]]
    have := innM_app lt (i + 1) (sortM lt [] (List.range' 0 (i + 1))) (List.range' (i + 1 + 1) (n - (i + 1 + 1)))
    rw [hlen] at this
    have e : List.range' 0 (i + 1 + 1) = List.range' 0 (i + 1) ++ [i + 1] := by rw [List.range'_concat]; simp
    rw [this, e, sortM_snoc]
theorem insD_mem {lt : Nat → Nat → Bool} {n i : Nat} (h : i + 1 ≤ n) : (insD lt n i).length = n ∧ ∀ x ∈ insD lt n i, x < n := by
  rw [insD_eq lt n i h]
  have hp := sortM_perm lt (List.range' 0 (i + 1)) []
  constructor
  · rw [List.length_append, List.length_reverse, hp.length_eq]; simp; omega
  · intro x hx
    rw [List.mem_append, List.mem_reverse, hp.mem_iff] at hx
    simp only [List.nil_append, List.mem_range'_1] at hx
    omega
theorem insD_last (lt : Nat → Nat → Bool) {n : Nat} (h : 1 ≤ n) : insD lt n (n - 1) = rankP lt n := by
  rw [insD_eq lt n (n - 1) (by omega)]
  unfold rankP
  rw [show n - 1 + 1 = n by omega, Nat.sub_self]; simp
def stI (ts : List Tmp) (l : List P2) (n : Nat) (more : List AV) (d : List Nat) : St := mkSt ts [1, 20] 151 ([.sl 20 1 1 0 n, intA 0, natA n, .fn (.func 147) [] [.ptr 1 0 0]] ++ more) [(false, .box [.rsl 2 (l.map p2C.enc) false]), (false, .arr 1 (d.map natA) false)]
theorem spClo {l : List P2} {x y : Nat} (hx : x < l.length) (hy : y < l.length) : cloG [natA x, natA y, .rptr [slA p2C 2 l]] = some (intA (cmpW (atR l x) (atR l y))) := by
  have h : ∀ z, z < l.length → ixOk l (Int.ofNat z) = true := fun z hz => by
    unfold ixOk
    rw [Bool.and_eq_true, decide_eq_true_eq]
    exact ⟨by simp only [Int.ofNat_eq_natCast]; omega, Nat.ble_eq_true_of_le hz⟩
  have := sp3_at (A := intC) (B := intC) (D := bxC ratsC) (F := fun i j l => bif ixOk l i && ixOk l j then some (intA (cmpW (atR l i.toNat) (atR l j.toNat))) else none) (Int.ofNat x) (Int.ofNat y) l
  rw [h x hx, h y hy] at this
  exact this
theorem setMap (d : List Nat) (i x : Nat) : (d.map natA).set (0 + i) (AV.v (.int .i64 (Int.ofNat x))) = (d.set i x).map natA := by
  rw [Nat.zero_add, List.map_set]
theorem inner189 (l : List P2) (i j : Nat) (d : List Nat) (hn : l.length < two63) (hd : d.length = l.length) (hx : ∀ x ∈ d, x < l.length) (hj : j < d.length) :
    Says (CS K2) 2 53 false (.loop (loopOf (CS K2) 189 2)) (stI [0, 1, 2, 3, 8, 9] l l.length [natA i, natA j] d) (.exit 2) (stI [0, 1, 2, 3, 8] l l.length [natA i] (innM (ltI l) j d)) := by
  have h := LoopRun.rounds (C := CS K2) (p := 2) (nt := 53) (rd := false) (c := loopOf (CS K2) 189 2) (rnd := rndI (ltI l)) (enc := fun s => stI [0, 1, 2, 3, 8, 9] l l.length [natA i, natA s.1] s.2) (ex := fun _ => .exit 2)
    (out := fun d => stI [0, 1, 2, 3, 8] l l.length [natA i] d) (fun s => s.2.length = l.length ∧ (∀ x ∈ s.2, x < l.length) ∧ s.1 < s.2.length)
    (fun s hs => by
      obtain ⟨j, d⟩ := s
      obtain ⟨h1, h2, h3⟩ := hs
      simp only at h1 h2 h3
      have cl : ∀ d : List Nat, EntClosed [(false, .box [.rsl 2 (l.map p2C.enc) false]), (false, .arr 1 (d.map natA) false)] := fun d => ⟨natCl d, trivial⟩
      cases j with
      | zero => exact ⟨K2_ok.rndX (r189C (l.map p2C.enc) (d.map natA) l.length i 0 l.length) ⟨rfl, cl d, rfl⟩, by simp⟩
      | succ j =>
        have e1 : d[j + 1]? = some (d[j + 1]'h3) := List.getElem?_eq_getElem h3
        have e2 : d[j]? = some (d[j]'(by omega)) := List.getElem?_eq_getElem (by omega)
        generalize d[j + 1]'h3 = x at e1
        generalize d[j]'(by omega) = y at e2
        have hx1 := h2 x (List.mem_of_getElem? e1)
        have hy1 := h2 y (List.mem_of_getElem? e2)
        rw [rndI_at e1 e2]
        have g0 : decide (Int.ofNat (j + 1) > 0) = true := by simp only [decide_eq_true_eq, Int.ofNat_eq_natCast]; omega
        have g1 : (d.map natA)[0 + (j + 1)]? = some (AV.v (.int .i64 (Int.ofNat x))) := by rw [Nat.zero_add]; exact get_map natA e1
        have g2 : (d.map natA)[0 + j]? = some (AV.v (.int .i64 (Int.ofNat y))) := by rw [Nat.zero_add]; exact get_map natA e2
        have hs := spClo hx1 hy1
        have ha : ∀ t, abin (CS K2) BinOp.sub 3 (Operand.tmp t) (Operand.const (Value.int IntKind.i64 1)) (AV.v (.int .i64 (Int.ofNat (j + 1)))) (AV.v (.int .i64 1)) = some (AV.v (.int .i64 (Int.ofNat j))) := fun t => abSub1 (by omega)
        cases hc : ltI l x y with
        | true =>
          have hc' : decide (cmpW (atR l x) (atR l y) < 0) = true := hc
          rw [cond_true]
          have hr := r189A (l.map p2C.enc) (d.map natA) l.length i (j + 1) j l.length x y (cmpW (atR l x) (atR l y))
          have g3 : ((d.set (j + 1) y).map natA)[0 + j]? = some (AV.v (.int .i64 (Int.ofNat y))) := by
            rw [Nat.zero_add]
            refine get_map natA ?_
            rw [List.getElem?_set_ne (by omega)]; exact e2
          rw [setMap, setMap] at hr
          refine ⟨K2_ok.rndN hr ⟨g0, by omega, g1, ha _, by omega, g2, ⟨rfl, hs⟩, hc', ha _, ha _, by omega, g2, by omega, g1, by omega, g1, by omega, g3, ha _, cl _, rfl⟩, ?_, ?_, ?_⟩
          · simp only [List.length_set]; exact h1
          · intro z hz
            rcases List.mem_or_eq_of_mem_set hz with hz | rfl
            · rcases List.mem_or_eq_of_mem_set hz with hz | rfl
              · exact h2 z hz
              · exact hy1
            · exact hx1
          · simp only [List.length_set]; omega
        | false =>
          have hc' : decide (cmpW (atR l x) (atR l y) < 0) = false := hc
          rw [cond_false]
          exact ⟨K2_ok.rndX (r189B (l.map p2C.enc) (d.map natA) l.length i (j + 1) j l.length x y (cmpW (atR l x) (atR l y))) ⟨g0, by omega, g1, ha _, by omega, g2, ⟨rfl, hs⟩, hc', cl d, rfl⟩, by simp⟩)
    (j + 1) (j, d) (innM (ltI l) j d) ⟨hd, hx, hj⟩ (rndI_run (ltI l) j d)
  exact h.says
theorem outer189 (l : List P2) (hn : 1 ≤ l.length ∧ l.length < two63) :
    Says (CS K2) 2 53 false (.loop (loopOf (CS K2) 189 0)) (stI [0, 1, 2, 3, 8] l l.length [intA 1] (List.range l.length)) (.exit 0) (mkSt [] [1, 20] 151 [] [(false, .box [.rsl 2 (l.map p2C.enc) false]), (false, .arr 1 ((rankP (ltI l) l.length).map natA) false)]) := by
  have h := LoopRun.idx (C := CS K2) (p := 2) (nt := 53) (rd := false) (c := loopOf (CS K2) 189 0)
    (fun i => stI [0, 1, 2, 3, 8] l l.length [natA (i + 1)] (insD (ltI l) l.length i)) (.exit 0)
    (mkSt [] [1, 20] 151 [] [(false, .box [.rsl 2 (l.map p2C.enc) false]), (false, .arr 1 ((rankP (ltI l) l.length).map natA) false)]) (List.range (l.length - 1)) (by simp)
    (fun i x hx => by
      have hi := lt_len hx
      rw [List.length_range] at hi
      obtain ⟨m1, m2⟩ := insD_mem (lt := ltI l) (n := l.length) (i := i) (by omega)
      have hin := inner189 l (i + 1) (i + 1) (insD (ltI l) l.length i) hn.2 m1 m2 (by omega)
      have hr := r189 (l.map p2C.enc) ((insD (ltI l) l.length i).map natA) ((insD (ltI l) l.length (i + 1)).map natA) l.length (i + 1) l.length
      rw [wrap_ix (show i + 1 < l.length by omega) hn.2] at hr
      exact K2_ok.rndN hr ⟨lt_of (by omega), ⟨⟨natCl _, trivial⟩, ⟨natCl _, trivial⟩, hin⟩, ⟨natCl _, trivial⟩, rfl⟩)
    (by
      rw [List.length_range, ← insD_last _ hn.1]
      refine K2_ok.rndX (r189x (l.map p2C.enc) ((insD (ltI l) l.length (l.length - 1)).map natA) l.length (l.length - 1 + 1) l.length) ⟨?_, ⟨natCl _, trivial⟩, rfl⟩
      rw [show l.length - 1 + 1 = l.length by omega]; exact lt_self _)
  exact h.says
/-! ### The ranks -/
def st75 (l : List P2) : Nat → St
  | 0 => mkSt [1, 5, 13, 14] [1] 26 [.ptr 1 0 0, nilS, natA l.length, natA 0] [(false, .box [.rsl 2 (l.map p2C.enc) false])]
  | i + 1 => mkSt [1, 5, 13, 14] [1, 20] 26 [.ptr 1 0 0, .sl 20 1 1 0 (i + 1), natA l.length, natA (i + 1)] [(false, .box [.rsl 2 (l.map p2C.enc) false]), (false, .arr 1 ((List.range (i + 1)).map natA) false)]
theorem loop75 (l : List P2) (hn : 1 ≤ l.length ∧ l.length ≤ 15) :
    Says (CS K2) 0 26 false (.loop (loopOf (CS K2) 75 0)) (st75 l 0) (.exit 0) (mkSt [1, 5] [1, 20] 26 [.ptr 1 0 0, .sl 20 1 1 0 l.length] [(false, .box [.rsl 2 (l.map p2C.enc) false]), (false, .arr 1 ((List.range l.length).map natA) false)]) := by
  have hl : l.length < two63 := by unfold two63; omega
  have h := LoopRun.idx (C := CS K2) (p := 0) (nt := 26) (rd := false) (c := loopOf (CS K2) 75 0) (st75 l) (.exit 0)
    (mkSt [1, 5] [1, 20] 26 [.ptr 1 0 0, .sl 20 1 1 0 l.length] [(false, .box [.rsl 2 (l.map p2C.enc) false]), (false, .arr 1 ((List.range l.length).map natA) false)]) l (by simp)
    (fun i x hx => by
      have hi := lt_len hx
      cases i with
      | zero =>
        have hr := r75a (l.map p2C.enc) l.length 0
        rw [wrap_ix hi hl] at hr
        exact K2_ok.rndN hr ⟨lt_of hi, ⟨natCl [0], trivial⟩, rfl⟩
      | succ i =>
        have hr := r75b (l.map p2C.enc) ((List.range (i + 1)).map natA) l.length (i + 1) (i + 1)
        have hlen : ((List.range (i + 1)).map natA ++ [AV.v (.int .i64 (Int.ofNat (i + 1)))]).length = i + 1 + 1 := by simp
        have hr2 : (List.range (i + 1)).map natA ++ [AV.v (.int .i64 (Int.ofNat (i + 1)))] = (List.range (i + 1 + 1)).map natA := by rw [List.range_succ (n := i + 1), List.map_append]; rfl
        rw [wrap_ix hi hl, hlen, hr2] at hr
        exact K2_ok.rndN hr ⟨lt_of hi, ⟨by simp, rfl, rfl, by omega, by omega, by decide⟩, ⟨natCl _, trivial⟩, rfl⟩)
    (by
      obtain ⟨n, e⟩ : ∃ n, l.length = n + 1 := ⟨l.length - 1, by omega⟩
      rw [e]
      unfold st75
      simp only
      rw [e]
      exact K2_ok.rndX (r75x (l.map p2C.enc) ((List.range (n + 1)).map natA) (n + 1) (n + 1) (n + 1)) ⟨lt_self _, ⟨natCl _, trivial⟩, rfl⟩)
  exact h.says
def rnkT (l : List P2) : AV := bif csErr l == 0 then .tup [.rsl 1 ((rankR (ltI l) l.length l.length).map natA) false, intA 0] else .tup [nilS, intA (csErr l)]
def rnkG : List AV → Option AV := sp1 ratsC fun l => bif Nat.ble l.length lim then some (rnkT l) else none
theorem h75 : Holds 75 rnkG := holds1 fun l r hr => by
  cases hb : Nat.ble l.length lim with
  | false => simp [hb] at hr
  | true =>
    simp only [hb, cond_true, Option.some.injEq] at hr; subst hr
    have hs := spCs hb
    unfold rnkT
    cases hc : csErr l == 0 with
    | false => exact K2_ok.tr (t75e (l.map p2C.enc) (csErr l)) ⟨⟨rfl, hs⟩, by rw [bne, hc]; rfl, rfl⟩
    | true =>
      have h0 : csErr l = 0 := by simpa using hc
      obtain ⟨⟨h1, h2⟩, hv⟩ := csZ.1 h0
      rw [cond_true, ← rank_eq (swoR hv)]
      have hl75 := loop75 l ⟨h1, h2⟩
      have ho := outer189 l ⟨h1, by unfold two63; omega⟩
      refine K2_ok.tr (t75 (l.map p2C.enc) ((List.range l.length).map natA) ((rankP (ltI l) l.length).map natA) (csErr l) l.length) ?_
      rw [e_len']
      refine ⟨⟨rfl, hs⟩, by rw [bne, hc]; rfl, ⟨trivial, ⟨natCl _, trivial⟩, hl75⟩, ?_, ⟨⟨natCl _, trivial⟩, ⟨natCl _, trivial⟩, ho⟩, ?_, ⟨natCl _, ?_⟩, rfl⟩
      · simp only [decide_eq_false_iff_not, Int.ofNat_eq_natCast]; omega
      · simp only [decide_eq_false_iff_not, Int.ofNat_eq_natCast]; omega
      · rw [List.length_map, (rankP_perm (ltI l) l.length).length_eq, List.length_range]
end Go.Vm.S6

namespace Go.Vm.S6
open Go.Proofs Go.RowKit Go.Sort Go.Shelf Go.Lib
set_option maxHeartbeats 2000000 in
theorem cmp_kit (x y : P2) (W : World) : Calls Tryz.prog 119 #[.agg #[.int .i64 x.1, .int .i64 x.2], .agg #[.int .i64 y.1, .int .i64 y.2]] W fun e w' =>
    e = .returned (.int .i64 (bif x.1 == y.1 && x.2 == y.2 then 0 else compareInt (wrap64 (x.1 * y.2)) (wrap64 (y.1 * x.2)))) ∧ ∃ q os', w' = grow (W.drewN q) os' := by
  have hcon := fun a b W' => AnyG.cmp_Compare_int Tryz.cmpI a b W'
  change ∀ a b W', Calls Tryz.prog 162 _ _ _ at hcon
  go_enter Tryz.func119, Tryz.ntmps119
  go_wp2_with (go_at_call 162; refine (hcon _ _ _).mono ?_; rintro e w' ⟨rfl, rfl⟩)
  · rename_i h1 h2
    go_ret
    refine ⟨?_, 0, _, by rw [alloc_eq_grow, alloc_eq_grow, grow_grow]; rfl⟩
    rw [h1, h2, beq_self_eq_true, beq_self_eq_true]; rfl
  · rename_i h1 h2
    go_ret
    refine ⟨?_, 0, _, by rw [alloc_eq_grow, alloc_eq_grow, grow_grow]; rfl⟩
    have : (x.2 == y.2) = false := by simpa using h2
    rw [this, Bool.and_false, cond_false, h1]
    rfl
  · rename_i h1
    go_ret
    refine ⟨?_, 0, _, by rw [alloc_eq_grow, alloc_eq_grow, grow_grow]; rfl⟩
    have : (x.1 == y.1) = false := by simpa using h1
    rw [this, Bool.false_and, cond_false]
    rfl
/-! ### Ratios that are valid -/
abbrev Rt : Type := { x : P2 // ratErr x = 0 }
instance : Inhabited Rt := ⟨⟨(0, 1), rfl⟩⟩
def cfR (x y : Rt) : Int := cmpM x.1 y.1
def encR (x : Rt) : List Value := [.int .i64 x.1.1, .int .i64 x.1.2]
theorem cfR_lt {x y : Rt} : ltOf cfR x y = true ↔ ltR x.1 y.1 := by
  unfold ltOf cfR
  rw [decide_eq_true_eq, cmpM_lt]
theorem cfR_nlt {x y : Rt} : ltOf cfR x y = false ↔ leR y.1 x.1 := by
  rw [← not_ltR, ← cfR_lt]; simp
theorem posR (x : Rt) : PosR x.1 := (ratAll x.2).1.2
theorem swoRt : SWO (ltOf cfR) where
  irrefl _ := cfR_nlt.2 (leR_rfl _)
  trans x y z h1 h2 := cfR_lt.2 (ltR_of_lt_le (posR x) (posR y) (posR z) (cfR_lt.1 h1) (cfR_lt.1 h2).le)
  ntrans x y z h1 h2 := cfR_nlt.2 (leR_trans (posR z) (posR y) (posR x) (cfR_nlt.1 h2) (cfR_nlt.1 h1))
theorem mulB {a b : Int} (ha : 0 ≤ a ∧ a ≤ 5000000000000) (hb : 0 ≤ b ∧ b ≤ 1000000) : wrap64 (a * b) = a * b := by
  have h1 := Int.mul_nonneg ha.1 hb.1
  have h2 := Int.mul_le_mul ha.2 hb.2 hb.1 (by omega)
  unfold wrap64; omega
theorem ratC {x : P2} (h : ratErr x = 0) : (0 ≤ x.1 ∧ x.1 ≤ 5000000000000) ∧ (0 ≤ x.2 ∧ x.2 ≤ 1000000) := by
  unfold ratErr at h
  cases hs : sizeErr x != 0 with
  | true => rw [hs, cond_true] at h; rw [h] at hs; cases hs
  | false =>
    obtain ⟨h1, h2⟩ := size_zero.1 (show sizeErr x = 0 by simpa using hs)
    exact ⟨h1, by omega, h2.2⟩
theorem cmp_cf (x y : Rt) : (bif x.1.1 == y.1.1 && x.1.2 == y.1.2 then 0 else compareInt (wrap64 (x.1.1 * y.1.2)) (wrap64 (y.1.1 * x.1.2))) = cfR x y := by
  have hx := ratC x.2
  have hy := ratC y.2
  rw [mulB hx.1 hy.2, mulB hy.1 hx.2]
  unfold cfR compareInt
  cases h : x.1.1 == y.1.1 && x.1.2 == y.1.2 with
  | true =>
    rw [Bool.and_eq_true, beq_iff_eq, beq_iff_eq] at h
    rw [cond_true]
    exact (cmpM_zero.2 (by rw [h.1, h.2])).symm
  | false =>
    rw [cond_false]
    unfold cmpM
    by_cases h1 : x.1.1 * y.1.2 < y.1.1 * x.1.2
    · rw [if_pos h1, decide_eq_true h1]; rfl
    · rw [if_neg h1, decide_eq_false h1, cond_false]
      by_cases h2 : x.1.1 * y.1.2 > y.1.1 * x.1.2
      · rw [if_pos h2, decide_eq_true h2]; rfl
      · rw [if_neg h2, decide_eq_false h2]; rfl
theorem cmpLays (blk off size : Nat) (w : World) : CmpLays Tryz.prog 119 #[] encR 2 cfR blk off size w := fun m os dk _ x y => by
  have := cmp_kit x.1 y.1 (sortWorldK encR 2 w blk off m dk os)
  rw [cmp_cf] at this
  exact this
/-! ### The row -/
def encV (x : P2) : Value := .agg #[.int .i64 x.1, .int .i64 x.2]
theorem reps_p2 {M : Mem} : ∀ {l : List P2} {ys : List Value}, RepL M (l.map p2C.enc) ys ↔ ys = l.map encV
  | [], ys => by rw [List.map_nil, RepL.nil_iff]; rfl
  | x :: l, ys => by
    rw [List.map_cons, RepL.cons_iff, List.map_cons]
    have hx : ∀ z, Rep M (p2C.enc x) z ↔ z = encV x := fun z => by
      show Rep M (.agg [.v (.int .i64 x.1), .v (.int .i64 x.2)]) z ↔ _
      unfold Rep
      simp only [RepL.cons_iff, RepL.nil_iff, Rep]
      constructor
      · rintro ⟨_, rfl, _, _, rfl, rfl, _, _, rfl, rfl, rfl⟩; rfl
      · rintro rfl; exact ⟨_, rfl, _, _, rfl, rfl, _, _, rfl, rfl, rfl⟩
    constructor
    · rintro ⟨z, zs, rfl, h1, h2⟩; rw [(hx z).1 h1, reps_p2.1 h2]
    · rintro rfl; exact ⟨_, _, rfl, (hx _).2 rfl, reps_p2.2 rfl⟩
theorem flat_cons (x : P2) (l : List P2) : flat ((x :: l).map encV) = .int .i64 x.1 :: .int .i64 x.2 :: flat (l.map encV) := rfl
theorem flat_len : ∀ l : List P2, (flat (l.map encV)).length = l.length * 2
  | [] => rfl
  | x :: l => by rw [flat_cons, List.length_cons, List.length_cons, flat_len l, List.length_cons]; omega
theorem flat_at : ∀ (l : List Rt) (t : Nat), t < l.length * 2 → (flat ((l.map (·.1)).map encV))[t]? = some ((encR l.toArray[t / 2]!)[t % 2]!)
  | [], t, h => by simp at h
  | x :: l, 0, _ => by rw [List.map_cons, flat_cons]; simp [encR]
  | x :: l, 1, _ => by rw [List.map_cons, flat_cons]; simp [encR]
  | x :: l, t + 2, h => by
    have ih := flat_at l t (by simp only [List.length_cons] at h; omega)
    rw [List.map_cons, flat_cons, List.getElem?_cons_succ, List.getElem?_cons_succ, ih]
    have e1 : (t + 2) / 2 = t / 2 + 1 := by omega
    have e2 : (t + 2) % 2 = t % 2 := by omega
    rw [e1, e2]
    congr 2
    simp [Array.getElem!_eq_getD, Array.getD]
theorem flatK_eq (l : List Rt) : (flatK encR 2 l.toArray).toList = flat ((l.map (·.1)).map encV) := by
  refine List.ext_getElem? fun t => ?_
  by_cases h : t < l.length * 2
  · rw [flat_at l t h]
    have h2 : t < (flatK encR 2 l.toArray).size := by simp [h]
    rw [Array.getElem?_toList, Array.getElem?_eq_getElem h2, ← getElem!_pos _ t h2, get_flatK _ _ _ t (by simpa using h)]
  · have h1 := flat_len (l.map (·.1))
    rw [List.length_map] at h1
    rw [Array.getElem?_toList, Array.getElem?_eq_none (by simp; omega), List.getElem?_eq_none (by omega)]
theorem lift_rt : ∀ {l : List P2}, VaR l → ∃ d : List Rt, d.map (·.1) = l
  | [], _ => ⟨[], rfl⟩
  | x :: l, h => by
    obtain ⟨d, hd⟩ := lift_rt (l := l) (fun y hy => h y (by simp [hy]))
    exact ⟨⟨x, h x (by simp)⟩ :: d, by rw [List.map_cons, hd]⟩
/-- What slices.SortFunc leaves of a row of valid ratios. -/
theorem sort_wr {l : List P2} (hv : VaR l) (hn : 0 < l.length ∧ l.length ≤ 15) : WrOk (CS K2) 145 2 (l.map p2C.enc) [fnV 119] ((sortR l).map p2C.enc) := by
  have hlen : (sortR l).length = l.length := (sortR_perm hv).length_eq
  refine ⟨enters_of Tryz.func145 rfl (by decide), by rw [List.length_map]; exact hn.1, by rw [List.length_map, List.length_map, hlen], ?_⟩
  intro M b ct arr ty ys rs hlt _ _ hbs hb hr hsd hsz hct htk hrs
  rw [List.length_map] at htk hct ⊢
  rw [reps_p2] at hr
  subst hr
  rw [RepL.cons_iff] at hrs
  obtain ⟨z, zs, rfl, h1, h2⟩ := hrs
  rw [RepL.nil_iff] at h2
  subst h2
  have h1 : Rep M (.fn (.func 119) [] []) z := h1
  unfold Rep at h1
  obtain ⟨q1, q2, rfl, h3, h4⟩ := h1
  rw [RepL.nil_iff] at h3 h4
  subst h3; subst h4
  obtain ⟨d, rfl⟩ := lift_rt hv
  rw [List.length_map] at htk hct hn hlen ⊢
  rw [callsIn_one]
  have hfk := flatK_eq d
  have hfs : (flatK encR 2 d.toArray).size = d.length * 2 := by simp
  have harr : ∀ j, j < d.length * 2 → arr[j]? = some ((flatK encR 2 d.toArray)[j]!) := fun j hj => by
    have : (arr.toList.take (d.length * 2))[j]? = (flatK encR 2 d.toArray).toList[j]? := by rw [htk, hfk]
    rw [List.getElem?_take, if_pos hj, Array.getElem?_toList, Array.getElem?_toList, Array.getElem?_eq_getElem (xs := flatK encR 2 d.toArray) (by omega), ← getElem!_pos (flatK encR 2 d.toArray) j (by omega)] at this
    exact this
  have hH : HoldsK encR 2 M.w b 0 d.toArray := fun j hj => by
    rw [hfs] at hj
    rw [Nat.zero_add]
    constructor
    · unfold World.cell?
      simp only [hb]
      exact harr j hj
    · unfold World.frozen?
      simp only [hb]
      rfl
  have hcon := AnyQ.slices_SortFunc Tryz.sortR 2 Tryz.isAgg28 Tryz.sizeOf28 encR (fun _ => rfl) (fun x v hv => by simp [encR] at hv; rcases hv with rfl | rfl <;> rfl) cfR swoRt 119 #[] b 0 ct d.toArray M.w (enters_of Tryz.func119 rfl (by decide)) (cmpLays b 0 d.toArray.size M.w) hH hbs (by simp; omega)
  change Calls Tryz.prog 145 _ _ _ at hcon
  refine hcon.mono ?_
  rintro e w' ⟨rfl, d', n, os, hp, hs, rfl⟩
  obtain ⟨hsz', _, hperm⟩ := hp
  have e1 : d'.extract 0 d.toArray.size = d' := by rw [← hsz']; exact Array.extract_size
  rw [e1, Array.extract_size] at hperm
  have hm : d'.toList.map (·.1) = sortR (d.map (·.1)) := by
    refine sortR_unique hv (hperm.map _) ?_
    rw [List.pairwise_map, List.pairwise_iff_getElem]
    intro i j hi hj hij
    have hi' : i < d'.size := by simpa using hi
    have hj' : j < d'.size := by simpa using hj
    have := hs i j (Nat.zero_le _) hij (by rw [← hsz']; exact hj')
    rw [getElem!_pos d' i hi', getElem!_pos d' j hj', cfR_nlt] at this
    simpa using this
  rw [← hm]
  have hdl : d'.toList.length = d.length := by simpa using hsz'
  have hfk' := flatK_eq d'.toList
  rw [Array.toArray_toList] at hfk'
  have hfs' : (flatK encR 2 d').size = d.length * 2 := by rw [size_flatK, hsz']; simp
  have hcell : (sortWorldK encR 2 M.w b 0 n d' os).heap[b]? = some (.cells (putCells id 0 (flatK encR 2 d') arr) ty (0, 0)) := by
    show ((M.w.heap.modify b (onCells (putCells id 0 (flatK encR 2 d')))) ++ os)[b]? = _
    rw [Array.getElem?_append_left (by simpa using hbs), Array.getElem?_modify, if_pos rfl, hb]; rfl
  refine ⟨rfl, rfl, rfl, rfl, ?_, ?_, putCells id 0 (flatK encR 2 d') arr, (d'.toList.map (·.1)).map encV, hcell, reps_p2.2 rfl, ?_, ?_, ?_⟩
  · show M.w.heap.size ≤ ((M.w.heap.modify b (onCells (putCells id 0 (flatK encR 2 d')))) ++ os).size
    simp
  · intro k hk hks
    show ((M.w.heap.modify b (onCells (putCells id 0 (flatK encR 2 d')))) ++ os)[k]? = _
    rw [Array.getElem?_append_left (by simpa using hks), Array.getElem?_modify, if_neg (fun h => hk h.symm)]
  · intro y hy
    obtain ⟨x, _, rfl⟩ := List.mem_map.1 hy
    rfl
  · simp [putCells]
  · rw [← hfk']
    refine List.ext_getElem? fun j => ?_
    rw [List.getElem?_take]
    by_cases hj : j < d.length * 2
    · rw [if_pos hj, Array.getElem?_toList, Array.getElem?_toList, putCells, Array.getElem?_mapIdx, harr j hj, Option.map_some, if_pos ⟨Nat.zero_le _, by omega⟩, Array.getElem?_eq_getElem (xs := flatK encR 2 d') (by omega), ← getElem!_pos (flatK encR 2 d') j (by omega)]
      rfl
    · rw [if_neg hj, Array.getElem?_toList, Array.getElem?_eq_none (by omega)]
/-! ### The median -/
def medT (l : List P2) : AV := bif csErr l == 0 then .tup [p2A (atR l (midI l)), intA 0] else .tup [p2A (0, 0), intA (csErr l)]
def medG : List AV → Option AV := sp1 ratsC fun l => bif Nat.ble l.length lim then some (medT l) else none
theorem h73 : Holds 73 medG := holds1 fun l r hr => by
  cases hb : Nat.ble l.length lim with
  | false => simp [hb] at hr
  | true =>
    simp only [hb, cond_true, Option.some.injEq] at hr; subst hr
    have hs := spCs hb
    unfold medT
    cases hc : csErr l == 0 with
    | false => exact K2_ok.tr (t73e (l.map p2C.enc) (csErr l)) ⟨⟨rfl, hs⟩, by rw [bne, hc]; rfl, rfl⟩
    | true =>
      have h0 : csErr l = 0 := by simpa using hc
      obtain ⟨⟨h1, h2⟩, hv⟩ := csZ.1 h0
      obtain ⟨_, e2, e3⟩ := midI_at h0
      have hw := sort_wr hv ⟨h1, h2⟩
      obtain ⟨x0, r, rfl⟩ : ∃ x0 r, l = x0 :: r := by
        cases l with
        | nil => simp at h1
        | cons x r => exact ⟨x, r, rfl⟩
      rw [cond_true]
      have hlen : (p2C.enc x0 :: r.map p2C.enc).length = r.length + 1 := by simp
      simp only [List.length_cons] at h1 h2 e2 e3
      have hq : ((sortR (x0 :: r)).map p2C.enc)[0 + r.length / 2]? = some (p2C.enc (atR (x0 :: r) (midI (x0 :: r)))) := by
        rw [Nat.zero_add]
        refine get_map p2C.enc ?_
        rw [show r.length / 2 = (r.length + 1 - 1) / 2 by rfl]; exact e3
      refine K2_ok.tr (t73 x0 (r.map p2C.enc) ((sortR (x0 :: r)).map p2C.enc) r.length (r.length / 2) (csErr (x0 :: r)) (atR (x0 :: r) (midI (x0 :: r))).1 (atR (x0 :: r) (midI (x0 :: r))).2) ?_
      refine ⟨⟨rfl, hs⟩, by rw [bne, hc]; rfl, ⟨allSz_map (f := p2C.enc) (fun _ => rfl) (x0 :: r), rfl, ?_, ?_, by decide⟩, ⟨rfl, hw⟩, ?_, ?_, ?_, hq, rfl⟩
      · show (p2C.enc x0 :: r.map p2C.enc).length * 16 ≤ _
        omega
      · show (p2C.enc x0 :: r.map p2C.enc).length ≤ _
        omega
      · show abin (CS K2) BinOp.sub 3 (Operand.tmp 18) (Operand.const (Value.int IntKind.i64 1)) (AV.v (.int .i64 (Int.ofNat (p2C.enc x0 :: r.map p2C.enc).length))) (AV.v (.int .i64 1)) = _
        rw [hlen]
        exact abSub1 (by unfold two63; omega)
      · exact abHalf (by unfold two63; omega)
      · show r.length / 2 < (p2C.enc x0 :: r.map p2C.enc).length
        omega
def K3 : Specs := ((K2.set 75 rnkG).set 73 medG)
theorem K3_ok : Ok K3 := ((K2_ok.set h75).set h73)
end Go.Vm.S6

namespace Go.Vm.S6
open Go.Proofs Go.RowKit
set_option maxRecDepth 100000 in
theorem t64 (es : List AV) (x y e r : Int) : evTreeD (CS M1) 60 64 [.rsl 3 es false, .agg [intA x, intA y]] [.sp [.rsl 3 es false] (intA e), .br [] [.sp [.rsl 3 es false, .agg [intA x, intA y]] (intA r)]] =
    (.need (asks (CS M1) 141 [.rsl 3 es false] (AV.v (.int .i64 e))) (bif firstM [e, ratErr (x, y)] != 0 then (.done (some (.tup [.v (.int .i64 0), .v (.int .i64 (firstM [e, ratErr (x, y)]))]))) else (.need (asks (CS M1) 142 [.rsl 3 es false, .agg [.v (.int .i64 x), .v (.int .i64 y)]] (AV.v (.int .i64 r))) (.done (some (.tup [.v (.int .i64 r), .v (.int .i64 0)])))))) := by kernel_rfl
/-! ### Risks -/
theorem specTbl {l : List St3} (h : Nat.ble l.length lim = true) : tblG [slA stepC 3 l] = some (intA (tblM l)) := by
  have h1 := sp1_at (A := stepsC) (F := fun l => bif Nat.ble l.length lim then some (intA (tblM l)) else none) l
  rw [h] at h1; exact h1
theorem specRsk {l : List St3} {x : P2} (h : Nat.ble l.length lim = true) : rskG [slA stepC 3 l, p2A x] = some (intA (rskM l x)) := specAt2 (A := stepsC) (B := p2C) (b := fun l _ => Nat.ble l.length lim) (F := fun l x => intA (rskM l x)) l x h
def rErr (l : List St3) (x : P2) : Int := firstM [tblM l, ratErr x]
def prkM (l : List St3) (x : P2) : AV := .tup [intA (bif rErr l x == 0 then rskM l x else 0), intA (rErr l x)]
def prkG : List AV → Option AV := sp2 stepsC p2C fun l x => bif Nat.ble l.length lim then some (prkM l x) else none
theorem h64 : Holds 64 prkG := holds2 fun l x r hr => by
  cases hb : Nat.ble l.length lim with
  | false => simp [hb] at hr
  | true =>
    simp only [hb, cond_true, Option.some.injEq] at hr; subst hr
    have ht := t64 (l.map stepC.enc) x.1 x.2 (tblM l) (rskM l x)
    rw [show firstM [tblM l, ratErr (x.1, x.2)] = rErr l x from rfl, bnz] at ht
    unfold prkM
    cases hq : rErr l x == 0 with
    | false => rw [hq] at ht; exact M1_ok.tr ht ⟨⟨rfl, specTbl hb⟩, rfl⟩
    | true =>
      rw [hq] at ht
      rw [show rErr l x = 0 by simpa using hq]
      exact M1_ok.tr ht ⟨⟨rfl, specTbl hb⟩, ⟨rfl, specRsk hb⟩, rfl⟩
end Go.Vm.S6

namespace Go.Vm.S6
open Go.Proofs Go.RowKit Go.Lib
theorem nDigits_le : ∀ (k u : Nat), u < 10 ^ (k + 1) → nDigits u ≤ k + 1
  | 0, u, h => by rw [nDigits_small (by simpa using h)]; omega
  | k + 1, u, h => by
    by_cases h10 : u < 10
    · rw [nDigits_small h10]; omega
    · rw [nDigits_big h10]
      have : u / 10 < 10 ^ (k + 1) := by rw [Nat.div_lt_iff_lt_mul (by omega)]; rw [Nat.pow_succ] at h; omega
      have := nDigits_le k (u / 10) this
      omega
/-- What a step's numbers are bound by. -/
def okSt (v : St3) : Bool := (decide (0 ≤ v.1) && decide (v.1 < 10000000000000)) && ((decide (0 ≤ v.2.1) && decide (v.2.1 < 10000000000000)) && (decide (0 ≤ v.2.2) && decide (v.2.2 < 10000000000000)))
theorem itoa_len {n : Int} (h0 : 0 ≤ n) (h1 : n < 10000000000000) : (itoa n).length ≤ 13 := by
  unfold itoa
  rw [if_neg (by omega), decDigits_length]
  exact nDigits_le 12 n.toNat (by omega)
def lineL (v : St3) : List UInt8 := [115, 116, 101, 112, 32] ++ itoa v.1 ++ [32] ++ itoa v.2.1 ++ [32] ++ itoa v.2.2 ++ [10]
theorem okSt_at {v : St3} (h : okSt v = true) : (0 ≤ v.1 ∧ v.1 < 10000000000000) ∧ (0 ≤ v.2.1 ∧ v.2.1 < 10000000000000) ∧ 0 ≤ v.2.2 ∧ v.2.2 < 10000000000000 := by
  unfold okSt at h
  simpa only [Bool.and_eq_true, decide_eq_true_eq] using h
theorem lineL_len {v : St3} (h : okSt v = true) : (lineL v).length ≤ 47 := by
  obtain ⟨⟨a1, a2⟩, ⟨b1, b2⟩, c1, c2⟩ := okSt_at h
  have := itoa_len a1 a2
  have := itoa_len b1 b2
  have := itoa_len c1 c2
  unfold lineL
  simp only [List.length_append, List.length_cons, List.length_nil]
  omega
def lineG : List AV → Option AV := sp1 stepC fun v => bif okSt v then some (strA (bA (lineL v))) else none
theorem spItoa {n : Int} (h0 : 0 ≤ n) (h1 : n < 10000000000000) : itoaG [intA n] = some (strA (bA (itoa n))) := by
  have := sp1_at (A := intC) (F := fun n => bif decide (-9223372036854775808 ≤ n) && decide (n ≤ 9223372036854775807) then some (strA (itoaB n)) else none) n
  rw [decide_eq_true (show -9223372036854775808 ≤ n by omega), decide_eq_true (show n ≤ 9223372036854775807 by omega)] at this
  exact this
theorem h150 : Holds 150 lineG := holds1 fun v r hr => by
  cases hb : okSt v with
  | false => simp [hb] at hr
  | true =>
    simp only [hb, cond_true, Option.some.injEq] at hr; subst hr
    obtain ⟨⟨a1, a2⟩, ⟨b1, b2⟩, c1, c2⟩ := okSt_at hb
    have hx := spItoa a1 a2
    have hy := spItoa b1 b2
    have hz := spItoa c1 c2
    have hl := lineL_len hb
    have hj : Lib.join ([(⟨#[115, 116, 101, 112]⟩ : ByteArray), bA (itoa v.1), bA (itoa v.2.1), bA (itoa v.2.2)].map (·.data.toList)) (⟨#[32]⟩ : ByteArray).data.toList = [115, 116, 101, 112, 32] ++ itoa v.1 ++ [32] ++ itoa v.2.1 ++ [32] ++ itoa v.2.2 := by
      simp [Lib.join, bA]
    have hjl : (Lib.join ([(⟨#[115, 116, 101, 112]⟩ : ByteArray), bA (itoa v.1), bA (itoa v.2.1), bA (itoa v.2.2)].map (·.data.toList)) (⟨#[32]⟩ : ByteArray).data.toList).length ≤ 46 := by
      rw [hj]; unfold lineL at hl; rw [List.length_append] at hl; simp only [List.length_cons, List.length_nil] at hl; omega
    have hs : joinG [.rsl 1 [.v (.string ⟨#[115, 116, 101, 112]⟩), strA (bA (itoa v.1)), strA (bA (itoa v.2.1)), strA (bA (itoa v.2.2))] true, .v (.string ⟨#[32]⟩)] = some (strA (bA ([115, 116, 101, 112, 32] ++ itoa v.1 ++ [32] ++ itoa v.2.1 ++ [32] ++ itoa v.2.2))) := by
      show joinF [⟨#[115, 116, 101, 112]⟩, bA (itoa v.1), bA (itoa v.2.1), bA (itoa v.2.2)] ⟨#[32]⟩ = _
      unfold joinF
      rw [Nat.ble_eq_true_of_le (show _ ≤ 140737488355328 by omega), show ([(⟨#[115, 116, 101, 112]⟩ : ByteArray), bA (itoa v.1), bA (itoa v.2.1), bA (itoa v.2.2)].length.ble 140737488355328) = true from rfl]
      show some (strA (joined _ _)) = _
      unfold joined
      rw [hj]; rfl
    have hadd := addStr SL (Operand.tmp 15) (Operand.const (Value.string (ByteArray.mk #[10]))) (s := bA ([115, 116, 101, 112, 32] ++ itoa v.1 ++ [32] ++ itoa v.2.1 ++ [32] ++ itoa v.2.2)) (t := ByteArray.mk #[10]) (by
      show ([115, 116, 101, 112, 32] ++ itoa v.1 ++ [32] ++ itoa v.2.1 ++ [32] ++ itoa v.2.2 : List UInt8).toArray.size + 1 < two63
      rw [hj] at hjl
      rw [List.size_toArray]
      have : (46 : Nat) + 1 < two63 := by decide
      omega)
    have he : bA ([115, 116, 101, 112, 32] ++ itoa v.1 ++ [32] ++ itoa v.2.1 ++ [32] ++ itoa v.2.2) ++ ByteArray.mk #[10] = bA (lineL v) := bA_app _ [10]
    rw [he] at hadd
    exact SL_ok.tr (t150 v.1 v.2.1 v.2.2 (bA (itoa v.1)) (bA (itoa v.2.1)) (bA (itoa v.2.2)) _ (bA (lineL v))) ⟨⟨rfl, hx⟩, ⟨rfl, hy⟩, ⟨rfl, hz⟩, ⟨rfl, hs⟩, hadd, rfl⟩
/-! ### A newline at the end -/
def nlB : ByteArray := ByteArray.mk #[10]
def sufM (s : ByteArray) : Bool := decide (Int.ofNat s.size ≥ 1) && (s.extract (s.size - 1) s.size).toList == nlB.toList
def nlC : Cod Unit := oneC (strA nlB) (fun a => match a with | .v (.string s) => decide (s = nlB) | _ => false) (fun b hb => by split at hb; rw [of_decide_eq_true hb]; exact Weak.rfl; cases hb) rfl
def sufG : List AV → Option AV := sp2 strC nlC fun s _ => bif Nat.ble s.size 100000 then some (boolA (sufM s)) else none
theorem h195 : Holds 195 sufG := holds2 fun s _ r hr => by
  cases hb : Nat.ble s.size 100000 with
  | false => simp [hb] at hr
  | true =>
    simp only [hb, cond_true, Option.some.injEq] at hr; subst hr
    have hs := Nat.le_of_ble_eq_true hb
    unfold sufM
    cases h1 : decide (Int.ofNat s.size ≥ 1) with
    | false => exact SL_ok.tr (t195a s) ⟨h1, rfl⟩
    | true =>
      have h2 : 1 ≤ s.size := by simp only [decide_eq_true_eq, Int.ofNat_eq_natCast, ge_iff_le] at h1; omega
      have ht := str_tail SL (s := s) (i := s.size - 1) (by omega)
      refine SL_ok.tr (t195b s (s.extract (s.size - 1) s.size) (s.size - 1)) ⟨h1, ?_, ht, rfl⟩
      show some (AV.v (.int .i64 (IntKind.i64.wrap (Int.ofNat s.size - 1)))) = _
      rw [show Int.ofNat s.size - 1 = Int.ofNat (s.size - 1) by simp only [Int.ofNat_eq_natCast]; omega, wrapN _ (by unfold two63; omega)]
def Z1 : Specs := (((((((((((K3.set 62 stTabG).set 65 ownSG).set 68 tblG).set 141 tblG).set 142 rskG).set 64 prkG).set 176 intG).set 91 spltG).set 173 idxG).set 150 lineG).set 195 sufG)
theorem Z1_ok : Ok Z1 := (((((((((((K3_ok.set h62).set h65).set h68).set h141).set h142).set h64).set h176).set h91).set h173).set h150).set h195)
end Go.Vm.S6
