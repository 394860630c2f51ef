/- Ranks: the median's reference. -/
import Derived.Test.YtbplbhcgcicgfaaGreatDoorS6K1
import Derived.Test.YtbplbhcgcicgfaaGreatDoorS6LA
namespace Go.Vm.S6
open Go.Proofs Go.RowKit
set_option maxRecDepth 100000 in
theorem t143 (es : List AV) (rs : List AV) (e1 e2 e3 : Int) : evTreeD (CS K1) 60 143 [.rsl 2 es false] [.sp [intA (Int.ofNat es.length), intA 15] (intA e1), .sp [.rsl 2 es false, fnV 102] (.rsl 1 rs false), .sp [.rsl 1 rs false] (intA e2), .sp [.rsl 1 [intA e1, intA e2] true] (intA e3)] =
    (.need (([.v (.int .i64 (Int.ofNat es.length)), .v (.int .i64 15)] : List AV) = ([.v (.int .i64 (Int.ofNat es.length)), .v (.int .i64 15)] : List AV) ∧ (Cx.spec (CS K1) 109 ([.v (.int .i64 (Int.ofNat es.length)), .v (.int .i64 15)] : List AV)) = (some (AV.v (.int .i64 e1)))) (.need (([.rsl 2 es false, .fn (Fn.func 102) [] []] : List AV) = ([.rsl 2 es false, .fn (Fn.func 102) [] []] : List AV) ∧ (Cx.spec (CS K1) 164 ([.rsl 2 es false, .fn (Fn.func 102) [] []] : List AV)) = (some (AV.rsl 1 rs false))) (.need (([.rsl 1 rs false] : List AV) = ([.rsl 1 rs false] : List AV) ∧ (Cx.spec (CS K1) 95 ([.rsl 1 rs false] : List AV)) = (some (AV.v (.int .i64 e2)))) (.need (([.rsl 1 [.v (.int .i64 e1), .v (.int .i64 e2)] true] : List AV) = ([.rsl 1 [.v (.int .i64 e1), .v (.int .i64 e2)] true] : List AV) ∧ (Cx.spec (CS K1) 95 ([.rsl 1 [.v (.int .i64 e1), .v (.int .i64 e2)] true] : List AV)) = (some (AV.v (.int .i64 e3)))) (.done (some (.v (.int .i64 e3)))))))) := by kernel_rfl
set_option maxRecDepth 100000 in
theorem t77 (es rs : List AV) (i j k : Nat) (a b : Int) : evTreeD (CS K1) 60 77 [.rsl 2 es false] [.sp [.rsl 2 es false] (.rsl 1 rs false), .ar (intA (Int.ofNat i)), .dv (intA (Int.ofNat j)), .chk [intA (Int.ofNat k)], .chk [.agg [intA a, intA b]]] =
    (.need (([.rsl 2 es false] : List AV) = ([.rsl 2 es false] : List AV) ∧ (Cx.spec (CS K1) 78 ([.rsl 2 es false] : List AV)) = (some (AV.rsl 1 rs false))) (.need ((abin (CS K1) BinOp.sub 3 (Operand.tmp 7) (Operand.const (Value.int IntKind.i64 1)) (AV.v (.int .i64 (Int.ofNat es.length))) (AV.v (.int .i64 1))) = (some (AV.v (.int .i64 (Int.ofNat i))))) (.need ((abin (CS K1) BinOp.quo 3 (Operand.tmp 8) (Operand.const (Value.int IntKind.i64 2)) (AV.v (.int .i64 (Int.ofNat i))) (AV.v (.int .i64 2))) = (some (AV.v (.int .i64 (Int.ofNat j))))) (.need (rs[j]? = (some (AV.v (.int .i64 (Int.ofNat k))))) (.need (es[k]? = (some (AV.agg [.v (.int .i64 a), .v (.int .i64 b)]))) (.done (some (.agg [.v (.int .i64 a), .v (.int .i64 b)])))))))) := by kernel_rfl
theorem abSub1 {S : Specs} {t : Nat} {n : Nat} (h : n + 1 < two63) : abin (CS S) BinOp.sub 3 (Operand.tmp t) (Operand.const (Value.int IntKind.i64 1)) (AV.v (.int .i64 (Int.ofNat (n + 1)))) (AV.v (.int .i64 1)) = some (AV.v (.int .i64 (Int.ofNat n))) := by
  show some (AV.v (.int .i64 (IntKind.i64.wrap (Int.ofNat (n + 1) - 1)))) = _
  rw [show Int.ofNat (n + 1) - 1 = Int.ofNat n by simp only [Int.ofNat_eq_natCast]; omega, wrapN n (by omega)]
theorem abHalf {S : Specs} {t : Nat} {n : Nat} (h : n < two63) : abin (CS S) BinOp.quo 3 (Operand.tmp t) (Operand.const (Value.int IntKind.i64 2)) (AV.v (.int .i64 (Int.ofNat n))) (AV.v (.int .i64 2)) = some (AV.v (.int .i64 (Int.ofNat (n / 2)))) := by
  show some (AV.v (.int .i64 (IntKind.i64.wrap (Int.tdiv (Int.ofNat n) 2)))) = _
  rw [show Int.tdiv (Int.ofNat n) 2 = Int.ofNat (n / 2) from rfl, wrapN (n / 2) (by unfold two63 at *; omega)]
theorem spCs {l : List P2} (h : Nat.ble l.length lim = true) : csG [slA p2C 2 l] = some (intA (csErr l)) := by
  have := sp1_at (A := ratsC) (F := fun l => bif Nat.ble l.length lim then some (intA (csErr l)) else none) l
  rw [h] at this; exact this
theorem spRk {l : List P2} (h : csErr l = 0) : rkG [slA p2C 2 l] = some (.rsl 1 ((rankR (ltI l) l.length l.length).map natA) false) := by
  have := sp1_at (A := ratsC) (F := fun l => bif csErr l == 0 then some (slA intC 1 ((rankR (ltI l) l.length l.length).map Int.ofNat)) else none) l
  rw [h, nats_map] at this; exact this
theorem h143 : Holds 143 csG := holds1 fun l r hr => by
  cases hb : Nat.ble l.length lim with
  | false => simp [hb] at hr
  | true =>
    simp only [hb, cond_true, Option.some.injEq] at hr; subst hr
    have hm := specMany (Int.ofNat l.length) 15
    have h1 : rmG [slA p2C 2 l, fnV 102] = some (slA intC 1 (l.map ratErr)) := by
      have := sp2_at (A := ratsC) (B := fnC 102) (F := fun l _ => bif Nat.ble l.length lim then some (slA intC 1 (l.map ratErr)) else none) l ()
      rw [hb] at this; exact this
    have h2 : firstG [slA intC 1 (l.map ratErr)] = some (intA (firstM (l.map ratErr))) := specFirst (by rw [List.length_map]; exact hb)
    have h3 := specFirstT [manyI (Int.ofNat l.length) 15, firstM (l.map ratErr)] rfl
    refine K1_ok.tr (t143 (l.map p2C.enc) ((l.map ratErr).map intA) (manyI (Int.ofNat l.length) 15) (firstM (l.map ratErr)) (csErr l)) ?_
    rw [e_len']
    exact ⟨⟨rfl, hm⟩, ⟨rfl, h1⟩, ⟨rfl, h2⟩, ⟨rfl, h3⟩, rfl⟩
def midI (l : List P2) : Nat := ((rankR (ltI l) l.length l.length)[(l.length - 1) / 2]?).getD 0
theorem midI_at {l : List P2} (h : csErr l = 0) : (rankR (ltI l) l.length l.length)[(l.length - 1) / 2]? = some (midI l) ∧ midI l < l.length ∧ (sortR l)[(l.length - 1) / 2]? = some (atR l (midI l)) := by
  obtain ⟨⟨h1, h2⟩, hv⟩ := csZ.1 h
  obtain ⟨_, _, _, _, _, h5, h6⟩ := rankR_spec (swoR hv) l.length l.length (Nat.le_refl _)
  have e : (rankR (ltI l) l.length l.length)[(l.length - 1) / 2]? = some (midI l) := by
    unfold midI
    rw [List.getElem?_eq_getElem (by rw [h6]; omega)]; rfl
  refine ⟨e, (h5 _ (List.mem_of_getElem? e)).1, ?_⟩
  unfold sortR
  rw [List.getElem?_map, e]; rfl
def medRG : List AV → Option AV := sp1 ratsC fun l => bif csErr l == 0 then some (p2A (atR l (midI l))) else none
theorem h77 : Holds 77 medRG := holds1 fun l r hr => by
  cases hb : csErr l == 0 with
  | false => simp [hb] at hr
  | true =>
    simp only [hb, cond_true, Option.some.injEq] at hr; subst hr
    have h0 : csErr l = 0 := by simpa using hb
    obtain ⟨⟨h1, h2⟩, hv⟩ := csZ.1 h0
    obtain ⟨e1, e2, _⟩ := midI_at h0
    obtain ⟨n, hn⟩ : ∃ n, l.length = n + 1 := ⟨l.length - 1, by omega⟩
    have hq : ((rankR (ltI l) l.length l.length).map natA)[n / 2]? = some (natA (midI l)) := get_map natA (by rw [show n / 2 = (l.length - 1) / 2 by rw [hn]; rfl]; exact e1)
    refine K1_ok.tr (t77 (l.map p2C.enc) ((rankR (ltI l) l.length l.length).map natA) n (n / 2) (midI l) (atR l (midI l)).1 (atR l (midI l)).2) ?_
    rw [e_len', hn]
    rw [hn] at hq
    have hs := spRk h0
    rw [hn] at hs
    exact ⟨⟨rfl, hs⟩, abSub1 (by unfold two63; omega), abHalf (by unfold two63; omega), hq, get_map p2C.enc (atR_get e2), rfl⟩
def K2 : Specs := ((K1.set 143 csG).set 77 medRG)
theorem K2_ok : Ok K2 := ((K1_ok.set h143).set h77)
end Go.Vm.S6
