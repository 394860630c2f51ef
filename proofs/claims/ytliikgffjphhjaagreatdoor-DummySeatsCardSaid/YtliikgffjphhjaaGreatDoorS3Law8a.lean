/- DummySeats: the lists that the law copies. -/
import Derived.Test.YtliikgffjphhjaaGreatDoorS3Law8m
import Derived.Test.YtliikgffjphhjaaGreatDoorVmH
namespace Go.Vm.S3
open Go.Proofs Go.RowKit
set_option maxRecDepth 100000 in
theorem l8pa (bs ps ss gs : List AV) (x : I6) (n i : Nat) : roundD (CS T13) 60 0 8 0 134 134 false (loopOf (CS T13) 8 0) [1,2,3,7,38,39,40] [3] [1,2,3,7,38,39,40] [3,47] [1,2,3,7] [3] [.rsl 2 ss false, .rsl 2 gs false, .ptr 3 0 0, nilS, .rsl 6 bs false, intA (Int.ofNat n), intA (Int.ofNat i)] [(false, .box [.rsl 6 bs false, .rsl 3 ps false])] [.chk [bxA x]] =
    (bif decide (Int.ofNat i < Int.ofNat n) then (.need (bs[i]? = (some (AV.agg [.v (.int .i64 x.fst), .v (.int .i64 x.snd.fst), .v (.int .i64 x.snd.snd.fst), .v (.int .i64 x.snd.snd.snd.fst), .v (.int .i64 x.snd.snd.snd.snd.fst), .v (.int .i64 x.snd.snd.snd.snd.snd)]))) (.need (EntClosed [(false, .box [.rsl 6 bs false, .rsl 3 ps false]), (false, .arr 6 [.agg [.v (.int .i64 x.fst), .v (.int .i64 x.snd.fst), .v (.int .i64 x.snd.snd.fst), .v (.int .i64 x.snd.snd.snd.fst), .v (.int .i64 x.snd.snd.snd.snd.fst), .v (.int .i64 x.snd.snd.snd.snd.snd)]] false)]) (.done (some ((.nrm, [.rsl 2 ss false, .rsl 2 gs false, .ptr 3 0 0, .sl 47 1 6 0 1, .rsl 6 bs false, .v (.int .i64 (Int.ofNat n)), .v (.int .i64 (IntKind.i64.wrap (Int.ofNat i + 1)))], [(false, .box [.rsl 6 bs false, .rsl 3 ps false]), (false, .arr 6 [.agg [.v (.int .i64 x.fst), .v (.int .i64 x.snd.fst), .v (.int .i64 x.snd.snd.fst), .v (.int .i64 x.snd.snd.snd.fst), .v (.int .i64 x.snd.snd.snd.snd.fst), .v (.int .i64 x.snd.snd.snd.snd.snd)]] false)])))))) else (.need (EntClosed [(false, .box [.rsl 6 bs false, .rsl 3 ps false])]) (.done (some (((.exit 0), [.rsl 2 ss false, .rsl 2 gs false, .ptr 3 0 0, .v (.slice none 0 0)], [(false, .box [.rsl 6 bs false, .rsl 3 ps false])])))))) := by kernel_rfl
set_option maxRecDepth 100000 in
theorem l8pb (bs ps ss gs : List AV) (x : I6) (n i : Nat) (rs : List AV) (k : Nat) : roundD (CS T13) 60 0 8 0 134 134 false (loopOf (CS T13) 8 0) [1,2,3,7,38,39,40] [3,47] [1,2,3,7,38,39,40] [3,47] [1,2,3,7] [3,47] [.rsl 2 ss false, .rsl 2 gs false, .ptr 3 0 0, .sl 47 1 6 0 k, .rsl 6 bs false, intA (Int.ofNat n), intA (Int.ofNat i)] [(false, .box [.rsl 6 bs false, .rsl 3 ps false]), (false, .arr 6 rs false)] [.chk [bxA x], .chk rs] =
    (bif decide (Int.ofNat i < Int.ofNat n) then (.need (bs[i]? = (some (AV.agg [.v (.int .i64 x.fst), .v (.int .i64 x.snd.fst), .v (.int .i64 x.snd.snd.fst), .v (.int .i64 x.snd.snd.snd.fst), .v (.int .i64 x.snd.snd.snd.snd.fst), .v (.int .i64 x.snd.snd.snd.snd.snd)]))) (.need (k = rs.length ∧ true = true ∧ 6 = 6 ∧ (rs ++ ([.agg [.v (.int .i64 x.fst), .v (.int .i64 x.snd.fst), .v (.int .i64 x.snd.snd.fst), .v (.int .i64 x.snd.snd.snd.fst), .v (.int .i64 x.snd.snd.snd.snd.fst), .v (.int .i64 x.snd.snd.snd.snd.snd)]] : List AV)).length * 48 ≤ 35184372088832 ∧ (rs ++ ([.agg [.v (.int .i64 x.fst), .v (.int .i64 x.snd.fst), .v (.int .i64 x.snd.snd.fst), .v (.int .i64 x.snd.snd.snd.fst), .v (.int .i64 x.snd.snd.snd.snd.fst), .v (.int .i64 x.snd.snd.snd.snd.snd)]] : List AV)).length ≤ 35184372088832 ∧ 48 ≠ 0) (.need (EntClosed [(false, .box [.rsl 6 bs false, .rsl 3 ps false]), (false, .arr 6 (rs ++ ([.agg [.v (.int .i64 x.fst), .v (.int .i64 x.snd.fst), .v (.int .i64 x.snd.snd.fst), .v (.int .i64 x.snd.snd.snd.fst), .v (.int .i64 x.snd.snd.snd.snd.fst), .v (.int .i64 x.snd.snd.snd.snd.snd)]] : List AV)) false)]) (.done (some ((.nrm, [.rsl 2 ss false, .rsl 2 gs false, .ptr 3 0 0, .sl 47 1 6 0 ((rs ++ ([.agg [.v (.int .i64 x.fst), .v (.int .i64 x.snd.fst), .v (.int .i64 x.snd.snd.fst), .v (.int .i64 x.snd.snd.snd.fst), .v (.int .i64 x.snd.snd.snd.snd.fst), .v (.int .i64 x.snd.snd.snd.snd.snd)]] : List AV)).length), .rsl 6 bs false, .v (.int .i64 (Int.ofNat n)), .v (.int .i64 (IntKind.i64.wrap (Int.ofNat i + 1)))], [(false, .box [.rsl 6 bs false, .rsl 3 ps false]), (false, .arr 6 (rs ++ ([.agg [.v (.int .i64 x.fst), .v (.int .i64 x.snd.fst), .v (.int .i64 x.snd.snd.fst), .v (.int .i64 x.snd.snd.snd.fst), .v (.int .i64 x.snd.snd.snd.snd.fst), .v (.int .i64 x.snd.snd.snd.snd.snd)]] : List AV)) false)]))))))) else (.need (EntClosed [(false, .box [.rsl 6 bs false, .rsl 3 ps false]), (false, .arr 6 rs false)]) (.done (some (((.exit 0), [.rsl 2 ss false, .rsl 2 gs false, .ptr 3 0 0, .sl 47 1 6 0 k], [(false, .box [.rsl 6 bs false, .rsl 3 ps false]), (false, .arr 6 rs false)])))))) := by kernel_rfl
set_option maxRecDepth 100000 in
theorem l8qa (bs ps ss gs b2 : List AV) (x : ByteArray × Bool) (n i : Nat) : roundD (CS T13) 60 0 8 0 134 134 false (loopOf (CS T13) 8 2) [1,2,3,7,10,49,50,51] [3] [1,2,3,7,10,49,50,51] [3,58] [1,2,3,7,10] [3] [.rsl 2 ss false, .rsl 2 gs false, .ptr 3 0 0, .rsl 6 b2 false, nilS, .rsl 2 ss false, intA (Int.ofNat n), intA (Int.ofNat i)] [(false, .box [.rsl 6 bs false, .rsl 3 ps false])] [.chk [stA x]] =
    (bif decide (Int.ofNat i < Int.ofNat n) then (.need (ss[i]? = (some (AV.agg [.v (.string x.fst), .v (.bool x.snd)]))) (.need (EntClosed [(false, .box [.rsl 6 bs false, .rsl 3 ps false]), (false, .arr 2 [.agg [.v (.string x.fst), .v (.bool x.snd)]] false)]) (.done (some ((.nrm, [.rsl 2 ss false, .rsl 2 gs false, .ptr 3 0 0, .rsl 6 b2 false, .sl 58 1 2 0 1, .rsl 2 ss false, .v (.int .i64 (Int.ofNat n)), .v (.int .i64 (IntKind.i64.wrap (Int.ofNat i + 1)))], [(false, .box [.rsl 6 bs false, .rsl 3 ps false]), (false, .arr 2 [.agg [.v (.string x.fst), .v (.bool x.snd)]] false)])))))) else (.need (EntClosed [(false, .box [.rsl 6 bs false, .rsl 3 ps false])]) (.done (some (((.exit 2), [.rsl 2 ss false, .rsl 2 gs false, .ptr 3 0 0, .rsl 6 b2 false, .v (.slice none 0 0)], [(false, .box [.rsl 6 bs false, .rsl 3 ps false])])))))) := by kernel_rfl
set_option maxRecDepth 100000 in
theorem l8qb (bs ps ss gs b2 : List AV) (x : ByteArray × Bool) (n i : Nat) (rs : List AV) (k : Nat) : roundD (CS T13) 60 0 8 0 134 134 false (loopOf (CS T13) 8 2) [1,2,3,7,10,49,50,51] [3,58] [1,2,3,7,10,49,50,51] [3,58] [1,2,3,7,10] [3,58] [.rsl 2 ss false, .rsl 2 gs false, .ptr 3 0 0, .rsl 6 b2 false, .sl 58 1 2 0 k, .rsl 2 ss false, intA (Int.ofNat n), intA (Int.ofNat i)] [(false, .box [.rsl 6 bs false, .rsl 3 ps false]), (false, .arr 2 rs false)] [.chk [stA x], .chk rs] =
    (bif decide (Int.ofNat i < Int.ofNat n) then (.need (ss[i]? = (some (AV.agg [.v (.string x.fst), .v (.bool x.snd)]))) (.need (k = rs.length ∧ true = true ∧ 2 = 2 ∧ (rs ++ ([.agg [.v (.string x.fst), .v (.bool x.snd)]] : List AV)).length * 24 ≤ 35184372088832 ∧ (rs ++ ([.agg [.v (.string x.fst), .v (.bool x.snd)]] : List AV)).length ≤ 35184372088832 ∧ 24 ≠ 0) (.need (EntClosed [(false, .box [.rsl 6 bs false, .rsl 3 ps false]), (false, .arr 2 (rs ++ ([.agg [.v (.string x.fst), .v (.bool x.snd)]] : List AV)) false)]) (.done (some ((.nrm, [.rsl 2 ss false, .rsl 2 gs false, .ptr 3 0 0, .rsl 6 b2 false, .sl 58 1 2 0 ((rs ++ ([.agg [.v (.string x.fst), .v (.bool x.snd)]] : List AV)).length), .rsl 2 ss false, .v (.int .i64 (Int.ofNat n)), .v (.int .i64 (IntKind.i64.wrap (Int.ofNat i + 1)))], [(false, .box [.rsl 6 bs false, .rsl 3 ps false]), (false, .arr 2 (rs ++ ([.agg [.v (.string x.fst), .v (.bool x.snd)]] : List AV)) false)]))))))) else (.need (EntClosed [(false, .box [.rsl 6 bs false, .rsl 3 ps false]), (false, .arr 2 rs false)]) (.done (some (((.exit 2), [.rsl 2 ss false, .rsl 2 gs false, .ptr 3 0 0, .rsl 6 b2 false, .sl 58 1 2 0 k], [(false, .box [.rsl 6 bs false, .rsl 3 ps false]), (false, .arr 2 rs false)])))))) := by kernel_rfl
set_option maxRecDepth 100000 in
theorem l8ra (bs ps ss gs b2 s2 : List AV) (x : ByteArray × ByteArray) (n i : Nat) : roundD (CS T13) 60 0 8 0 134 134 false (loopOf (CS T13) 8 4) [1,2,3,7,10,13,60,61,62] [3] [1,2,3,7,10,13,60,61,62] [3,69] [1,2,3,7,10,13] [3] [.rsl 2 ss false, .rsl 2 gs false, .ptr 3 0 0, .rsl 6 b2 false, .rsl 2 s2 false, nilS, .rsl 2 gs false, intA (Int.ofNat n), intA (Int.ofNat i)] [(false, .box [.rsl 6 bs false, .rsl 3 ps false])] [.chk [sgA x]] =
    (bif decide (Int.ofNat i < Int.ofNat n) then (.need (gs[i]? = (some (AV.agg [.v (.string x.fst), .v (.string x.snd)]))) (.need (EntClosed [(false, .box [.rsl 6 bs false, .rsl 3 ps false]), (false, .arr 2 [.agg [.v (.string x.fst), .v (.string x.snd)]] false)]) (.done (some ((.nrm, [.rsl 2 ss false, .rsl 2 gs false, .ptr 3 0 0, .rsl 6 b2 false, .rsl 2 s2 false, .sl 69 1 2 0 1, .rsl 2 gs false, .v (.int .i64 (Int.ofNat n)), .v (.int .i64 (IntKind.i64.wrap (Int.ofNat i + 1)))], [(false, .box [.rsl 6 bs false, .rsl 3 ps false]), (false, .arr 2 [.agg [.v (.string x.fst), .v (.string x.snd)]] false)])))))) else (.need (EntClosed [(false, .box [.rsl 6 bs false, .rsl 3 ps false])]) (.done (some (((.exit 4), [.rsl 2 ss false, .rsl 2 gs false, .ptr 3 0 0, .rsl 6 b2 false, .rsl 2 s2 false, .v (.slice none 0 0)], [(false, .box [.rsl 6 bs false, .rsl 3 ps false])])))))) := by kernel_rfl
set_option maxRecDepth 100000 in
theorem l8rb (bs ps ss gs b2 s2 : List AV) (x : ByteArray × ByteArray) (n i : Nat) (rs : List AV) (k : Nat) : roundD (CS T13) 60 0 8 0 134 134 false (loopOf (CS T13) 8 4) [1,2,3,7,10,13,60,61,62] [3,69] [1,2,3,7,10,13,60,61,62] [3,69] [1,2,3,7,10,13] [3,69] [.rsl 2 ss false, .rsl 2 gs false, .ptr 3 0 0, .rsl 6 b2 false, .rsl 2 s2 false, .sl 69 1 2 0 k, .rsl 2 gs false, intA (Int.ofNat n), intA (Int.ofNat i)] [(false, .box [.rsl 6 bs false, .rsl 3 ps false]), (false, .arr 2 rs false)] [.chk [sgA x], .chk rs] =
    (bif decide (Int.ofNat i < Int.ofNat n) then (.need (gs[i]? = (some (AV.agg [.v (.string x.fst), .v (.string x.snd)]))) (.need (k = rs.length ∧ true = true ∧ 2 = 2 ∧ (rs ++ ([.agg [.v (.string x.fst), .v (.string x.snd)]] : List AV)).length * 32 ≤ 35184372088832 ∧ (rs ++ ([.agg [.v (.string x.fst), .v (.string x.snd)]] : List AV)).length ≤ 35184372088832 ∧ 32 ≠ 0) (.need (EntClosed [(false, .box [.rsl 6 bs false, .rsl 3 ps false]), (false, .arr 2 (rs ++ ([.agg [.v (.string x.fst), .v (.string x.snd)]] : List AV)) false)]) (.done (some ((.nrm, [.rsl 2 ss false, .rsl 2 gs false, .ptr 3 0 0, .rsl 6 b2 false, .rsl 2 s2 false, .sl 69 1 2 0 ((rs ++ ([.agg [.v (.string x.fst), .v (.string x.snd)]] : List AV)).length), .rsl 2 gs false, .v (.int .i64 (Int.ofNat n)), .v (.int .i64 (IntKind.i64.wrap (Int.ofNat i + 1)))], [(false, .box [.rsl 6 bs false, .rsl 3 ps false]), (false, .arr 2 (rs ++ ([.agg [.v (.string x.fst), .v (.string x.snd)]] : List AV)) false)]))))))) else (.need (EntClosed [(false, .box [.rsl 6 bs false, .rsl 3 ps false]), (false, .arr 2 rs false)]) (.done (some (((.exit 4), [.rsl 2 ss false, .rsl 2 gs false, .ptr 3 0 0, .rsl 6 b2 false, .rsl 2 s2 false, .sl 69 1 2 0 k], [(false, .box [.rsl 6 bs false, .rsl 3 ps false]), (false, .arr 2 rs false)])))))) := by kernel_rfl
/-! ### Lists that the law copies -/
abbrev bx8 (l : List I6) (m : List V3) : List (Bool × Blk) := [(false, .box [.rsl 6 (l.map bxA) false, .rsl 3 (m.map vA) false])]
theorem gath_id {α : Type} (l : List α) : gath (fun _ x => [x]) 0 l = l := by rw [gath_map (fun x => x)]; simp
theorem lp8a (l : List I6) (m : List V3) (ss : List (ByteArray × Bool)) (gs : List (ByteArray × ByteArray)) (hl : l.length ≤ lim) :
    LoopRun (CS T13) 0 134 false (loopOf (CS T13) 8 0) (mkSt [1,2,3,7,38,39,40] [3] 134 [.rsl 2 (ss.map stA) false, .rsl 2 (gs.map sgA) false, .ptr 3 0 0, nilS, .rsl 6 (l.map bxA) false, intA (Int.ofNat l.length), intA (Int.ofNat 0)] (bx8 l m)) (.exit 0)
      (mkSt [1,2,3,7] [3] 134 [.rsl 2 (ss.map stA) false, .rsl 2 (gs.map sgA) false, .ptr 3 0 0, .rsl 6 (l.map bxA) false] (bx8 l m)) := by
  have hl2 := limTwo hl
  have h := LoopRun.pushes (C := CS T13) (p := 0) (nt := 134) (rd := false) (c := loopOf (CS T13) 8 0) bxA (fun _ (x : I6) => [x]) (fun _ _ => Nat.le_refl 1) (key := 47) (sz := 6) (nf := 134) (ts := [1,2,3,7,38,39,40]) (ks := [3])
    (fun i a => [.rsl 2 (ss.map stA) false, .rsl 2 (gs.map sgA) false, .ptr 3 0 0, a, .rsl 6 (l.map bxA) false, intA (Int.ofNat l.length), intA (Int.ofNat i)]) (fun _ => bx8 l m) (ts2 := [1,2,3,7]) (fun a => [.rsl 2 (ss.map stA) false, .rsl 2 (gs.map sgA) false, .ptr 3 0 0, a]) (ex := .exit 0) l (by simp) (Nat.zero_le _) rfl (fun _ => rfl) (fun _ => rfl)
    (fun es n h => .cons (.cl rfl) (.cons (.cl rfl) (.cons (.ptr (by decide)) (.cons (.sl h) .nil)))) (fun es n _ => .cons (.box (.cons (.cl rfl) (.cons (.cl rfl) .nil))) .nil)
    (.cons Weak.rfl (.cons Weak.rfl (.cons Weak.rfl (.cons Weak.nilSl .nil)))) (.cons .rfl .nil)
    (fun i x _ h => by cases h) (fun i x rs _ h => by cases h)
    (fun i x y hx hg => by
      obtain rfl : x = y := by simpa using hg
      have hi := lt_len hx
      exact T13_ok.rndN (l8pa (l.map bxA) (m.map vA) (ss.map stA) (gs.map sgA) x l.length i) (by rw [lt_of hi, wrap_ix hi hl2]; exact ⟨get_map bxA hx, ⟨ClosedL.map (l := [x]) (f := bxA) (fun _ => rfl), trivial⟩, rfl⟩))
    (fun i x y rs hx hg hc hr => by
      obtain rfl : x = y := by simpa using hg
      have hi := lt_len hx
      have hlen : (rs ++ [bxA x]).length ≤ 35184372088832 / 1024 := by simp; unfold lim at hl; omega
      exact T13_ok.rndN (l8pb (l.map bxA) (m.map vA) (ss.map stA) (gs.map sgA) x l.length i rs rs.length) (by
        rw [lt_of hi, wrap_ix hi hl2]
        exact ⟨get_map bxA hx, ⟨rfl, rfl, rfl, lenOk hlen (by omega), lenOk1 hlen, by omega⟩, ⟨hc.append (ClosedL.map (l := [x]) (f := bxA) (fun _ => rfl)), trivial⟩, rfl⟩))
    (T13_ok.rndX (l8pa (l.map bxA) (m.map vA) (ss.map stA) (gs.map sgA) (0, 0, 0, 0, 0, 0) l.length l.length) (by rw [lt_self]; exact ⟨trivial, rfl⟩))
    (fun rs hc => T13_ok.rndX (l8pb (l.map bxA) (m.map vA) (ss.map stA) (gs.map sgA) (0, 0, 0, 0, 0, 0) l.length l.length rs rs.length) (by rw [lt_self]; exact ⟨⟨hc, trivial⟩, rfl⟩))
  rw [gath_id] at h
  exact h
theorem lp8b (l : List I6) (m : List V3) (ss : List (ByteArray × Bool)) (gs : List (ByteArray × ByteArray)) (hl : ss.length ≤ lim) :
    LoopRun (CS T13) 0 134 false (loopOf (CS T13) 8 2) (mkSt [1,2,3,7,10,49,50,51] [3] 134 [.rsl 2 (ss.map stA) false, .rsl 2 (gs.map sgA) false, .ptr 3 0 0, .rsl 6 (l.map bxA) false, nilS, .rsl 2 (ss.map stA) false, intA (Int.ofNat ss.length), intA (Int.ofNat 0)] (bx8 l m)) (.exit 2)
      (mkSt [1,2,3,7,10] [3] 134 [.rsl 2 (ss.map stA) false, .rsl 2 (gs.map sgA) false, .ptr 3 0 0, .rsl 6 (l.map bxA) false, .rsl 2 (ss.map stA) false] (bx8 l m)) := by
  have hl2 := limTwo hl
  have h := LoopRun.pushes (C := CS T13) (p := 0) (nt := 134) (rd := false) (c := loopOf (CS T13) 8 2) stA (fun _ (x : ByteArray × Bool) => [x]) (fun _ _ => Nat.le_refl 1) (key := 58) (sz := 2) (nf := 134) (ts := [1,2,3,7,10,49,50,51]) (ks := [3])
    (fun i a => [.rsl 2 (ss.map stA) false, .rsl 2 (gs.map sgA) false, .ptr 3 0 0, .rsl 6 (l.map bxA) false, a, .rsl 2 (ss.map stA) false, intA (Int.ofNat ss.length), intA (Int.ofNat i)]) (fun _ => bx8 l m) (ts2 := [1,2,3,7,10]) (fun a => [.rsl 2 (ss.map stA) false, .rsl 2 (gs.map sgA) false, .ptr 3 0 0, .rsl 6 (l.map bxA) false, a]) (ex := .exit 2) ss (by simp) (Nat.zero_le _) rfl (fun _ => rfl) (fun _ => rfl)
    (fun es n h => .cons (.cl rfl) (.cons (.cl rfl) (.cons (.ptr (by decide)) (.cons (.cl rfl) (.cons (.sl h) .nil))))) (fun es n _ => .cons (.box (.cons (.cl rfl) (.cons (.cl rfl) .nil))) .nil)
    (.cons Weak.rfl (.cons Weak.rfl (.cons Weak.rfl (.cons Weak.rfl (.cons Weak.nilSl .nil))))) (.cons .rfl .nil)
    (fun i x _ h => by cases h) (fun i x rs _ h => by cases h)
    (fun i x y hx hg => by
      obtain rfl : x = y := by simpa using hg
      have hi := lt_len hx
      exact T13_ok.rndN (l8qa (l.map bxA) (m.map vA) (ss.map stA) (gs.map sgA) (l.map bxA) x ss.length i) (by rw [lt_of hi, wrap_ix hi hl2]; exact ⟨get_map stA hx, ⟨ClosedL.map (l := [x]) (f := stA) (fun _ => rfl), trivial⟩, rfl⟩))
    (fun i x y rs hx hg hc hr => by
      obtain rfl : x = y := by simpa using hg
      have hi := lt_len hx
      have hlen : (rs ++ [stA x]).length ≤ 35184372088832 / 1024 := by simp; unfold lim at hl; omega
      exact T13_ok.rndN (l8qb (l.map bxA) (m.map vA) (ss.map stA) (gs.map sgA) (l.map bxA) x ss.length i rs rs.length) (by
        rw [lt_of hi, wrap_ix hi hl2]
        exact ⟨get_map stA hx, ⟨rfl, rfl, rfl, lenOk hlen (by omega), lenOk1 hlen, by omega⟩, ⟨hc.append (ClosedL.map (l := [x]) (f := stA) (fun _ => rfl)), trivial⟩, rfl⟩))
    (T13_ok.rndX (l8qa (l.map bxA) (m.map vA) (ss.map stA) (gs.map sgA) (l.map bxA) (⟨#[]⟩, false) ss.length ss.length) (by rw [lt_self]; exact ⟨trivial, rfl⟩))
    (fun rs hc => T13_ok.rndX (l8qb (l.map bxA) (m.map vA) (ss.map stA) (gs.map sgA) (l.map bxA) (⟨#[]⟩, false) ss.length ss.length rs rs.length) (by rw [lt_self]; exact ⟨⟨hc, trivial⟩, rfl⟩))
  rw [gath_id] at h
  exact h
theorem lp8c (l : List I6) (m : List V3) (ss : List (ByteArray × Bool)) (gs : List (ByteArray × ByteArray)) (hl : gs.length ≤ lim) :
    LoopRun (CS T13) 0 134 false (loopOf (CS T13) 8 4) (mkSt [1,2,3,7,10,13,60,61,62] [3] 134 [.rsl 2 (ss.map stA) false, .rsl 2 (gs.map sgA) false, .ptr 3 0 0, .rsl 6 (l.map bxA) false, .rsl 2 (ss.map stA) false, nilS, .rsl 2 (gs.map sgA) false, intA (Int.ofNat gs.length), intA (Int.ofNat 0)] (bx8 l m)) (.exit 4)
      (mkSt [1,2,3,7,10,13] [3] 134 [.rsl 2 (ss.map stA) false, .rsl 2 (gs.map sgA) false, .ptr 3 0 0, .rsl 6 (l.map bxA) false, .rsl 2 (ss.map stA) false, .rsl 2 (gs.map sgA) false] (bx8 l m)) := by
  have hl2 := limTwo hl
  have h := LoopRun.pushes (C := CS T13) (p := 0) (nt := 134) (rd := false) (c := loopOf (CS T13) 8 4) sgA (fun _ (x : ByteArray × ByteArray) => [x]) (fun _ _ => Nat.le_refl 1) (key := 69) (sz := 2) (nf := 134) (ts := [1,2,3,7,10,13,60,61,62]) (ks := [3])
    (fun i a => [.rsl 2 (ss.map stA) false, .rsl 2 (gs.map sgA) false, .ptr 3 0 0, .rsl 6 (l.map bxA) false, .rsl 2 (ss.map stA) false, a, .rsl 2 (gs.map sgA) false, intA (Int.ofNat gs.length), intA (Int.ofNat i)]) (fun _ => bx8 l m) (ts2 := [1,2,3,7,10,13]) (fun a => [.rsl 2 (ss.map stA) false, .rsl 2 (gs.map sgA) false, .ptr 3 0 0, .rsl 6 (l.map bxA) false, .rsl 2 (ss.map stA) false, a]) (ex := .exit 4) gs (by simp) (Nat.zero_le _) rfl (fun _ => rfl) (fun _ => rfl)
    (fun es n h => .cons (.cl rfl) (.cons (.cl rfl) (.cons (.ptr (by decide)) (.cons (.cl rfl) (.cons (.cl rfl) (.cons (.sl h) .nil)))))) (fun es n _ => .cons (.box (.cons (.cl rfl) (.cons (.cl rfl) .nil))) .nil)
    (.cons Weak.rfl (.cons Weak.rfl (.cons Weak.rfl (.cons Weak.rfl (.cons Weak.rfl (.cons Weak.nilSl .nil)))))) (.cons .rfl .nil)
    (fun i x _ h => by cases h) (fun i x rs _ h => by cases h)
    (fun i x y hx hg => by
      obtain rfl : x = y := by simpa using hg
      have hi := lt_len hx
      exact T13_ok.rndN (l8ra (l.map bxA) (m.map vA) (ss.map stA) (gs.map sgA) (l.map bxA) (ss.map stA) x gs.length i) (by rw [lt_of hi, wrap_ix hi hl2]; exact ⟨get_map sgA hx, ⟨ClosedL.map (l := [x]) (f := sgA) (fun _ => rfl), trivial⟩, rfl⟩))
    (fun i x y rs hx hg hc hr => by
      obtain rfl : x = y := by simpa using hg
      have hi := lt_len hx
      have hlen : (rs ++ [sgA x]).length ≤ 35184372088832 / 1024 := by simp; unfold lim at hl; omega
      exact T13_ok.rndN (l8rb (l.map bxA) (m.map vA) (ss.map stA) (gs.map sgA) (l.map bxA) (ss.map stA) x gs.length i rs rs.length) (by
        rw [lt_of hi, wrap_ix hi hl2]
        exact ⟨get_map sgA hx, ⟨rfl, rfl, rfl, lenOk hlen (by omega), lenOk1 hlen, by omega⟩, ⟨hc.append (ClosedL.map (l := [x]) (f := sgA) (fun _ => rfl)), trivial⟩, rfl⟩))
    (T13_ok.rndX (l8ra (l.map bxA) (m.map vA) (ss.map stA) (gs.map sgA) (l.map bxA) (ss.map stA) (⟨#[]⟩, ⟨#[]⟩) gs.length gs.length) (by rw [lt_self]; exact ⟨trivial, rfl⟩))
    (fun rs hc => T13_ok.rndX (l8rb (l.map bxA) (m.map vA) (ss.map stA) (gs.map sgA) (l.map bxA) (ss.map stA) (⟨#[]⟩, ⟨#[]⟩) gs.length gs.length rs rs.length) (by rw [lt_self]; exact ⟨⟨hc, trivial⟩, rfl⟩))
  rw [gath_id] at h
  exact h
end Go.Vm.S3
