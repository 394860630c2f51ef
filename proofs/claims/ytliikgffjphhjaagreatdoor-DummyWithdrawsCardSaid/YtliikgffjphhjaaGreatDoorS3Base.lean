/- The evaluator over the program, with specifications. -/
import Derived.Test.YtliikgffjphhjaaGreatDoorS3Tab
namespace Go.Vm.S3
open Go.Proofs Go.RowKit
abbrev Ok (S : Specs) : Prop := SpecsOk Tryz.prog globA S
abbrev Holds (f : FuncId) (g : List AV → Option AV) : Prop := Holds1 Tryz.prog globA f g
abbrev Cmp (f : FuncId) (l : List AV) (r : AV) : Prop := Comp Tryz.prog globA f l r
set_option maxRecDepth 100000 in
theorem Ok.ev {S : Specs} (h : Ok S) {f : FuncId} {d : Nat} {l : List AV} {r : AV} (hg : evTree (CS S) d f l = some r) : Cmp f l r :=
 SpecsOk.comp (C := CS S) (B := tabs) rfl size290 fns mixed h hg
set_option maxRecDepth 100000 in
theorem Ok.evD {S : Specs} (h : Ok S) {f : FuncId} {d : Nat} {hs : List Hn} {l : List AV} {r : AV} (hg : (evTreeD (CS S) d f l hs).ok r) : Cmp f l r :=
 SpecsOk.compD (C := CS S) (B := tabs) rfl size290 fns mixed h ⟨hg⟩
set_option maxRecDepth 100000 in
theorem Ok.says {S : Specs} (h : Ok S) {d p fid fb bid nt nf : Nat} {rd : Bool} {ts ts1 ts2 : List Tmp} {ks ks1 ks2 : List Nat} {vs vs1 : List AV} {es es1 : List (Bool × Blk)} {hs : List Hn} {ex : Ex}
  (hr : (roundD (CS S) d p fid fb nt nf rd (lO (CS S) fid bid) ts ks ts1 ks1 ts2 ks2 vs es hs).ok (ex, vs1, es1)) : Says (CS S) p nt rd (lO (CS S) fid bid) (mkSt ts ks nf vs es) ex (endSt ex ts1 ks1 ts2 ks2 nf vs1 es1) :=
 SpecsOk.roundC (C := CS S) (B := tabs) rfl size290 fns mixed h ⟨hr⟩
theorem Ok.rndN {S : Specs} (h : Ok S) {d p fid fb bid nt nf : Nat} {rd : Bool} {ts ts1 ts2 : List Tmp} {ks ks1 ks2 : List Nat} {vs vs1 : List AV} {es es1 : List (Bool × Blk)} {hs : List Hn} {t : Dt (Ex × List AV × List (Bool × Blk))}
  (e : roundD (CS S) d p fid fb nt nf rd (lO (CS S) fid bid) ts ks ts1 ks1 ts2 ks2 vs es hs = t) (ht : t.ok (.nrm, vs1, es1)) : Says (CS S) p nt rd (lO (CS S) fid bid) (mkSt ts ks nf vs es) .nrm (mkSt ts1 ks1 nf vs1 es1) :=
 h.says (by rw [e]; exact ht)
theorem Ok.rndR {S : Specs} (h : Ok S) {d p fid fb bid nt nf : Nat} {rd : Bool} {ts ts1 ts2 : List Tmp} {ks ks1 ks2 : List Nat} {vs vs1 : List AV} {es es1 : List (Bool × Blk)} {hs : List Hn} {t : Dt (Ex × List AV × List (Bool × Blk))}
  (e : roundD (CS S) d p fid fb nt nf rd (lO (CS S) fid bid) ts ks ts1 ks1 ts2 ks2 vs es hs = t) (ht : t.ok (.ret, vs1, es1)) : Says (CS S) p nt rd (lO (CS S) fid bid) (mkSt ts ks nf vs es) .ret (mkSt ts2 ks2 nf vs1 es1) :=
 h.says (by rw [e]; exact ht)
theorem Ok.rndX {S : Specs} (h : Ok S) {d p fid fb bid nt nf : Nat} {rd : Bool} {ts ts1 ts2 : List Tmp} {ks ks1 ks2 : List Nat} {vs vs1 : List AV} {es es1 : List (Bool × Blk)} {hs : List Hn} {t : Dt (Ex × List AV × List (Bool × Blk))}
  (e : roundD (CS S) d p fid fb nt nf rd (lO (CS S) fid bid) ts ks ts1 ks1 ts2 ks2 vs es hs = t) {i : Nat} (ht : t.ok (.exit i, vs1, es1)) : Says (CS S) p nt rd (lO (CS S) fid bid) (mkSt ts ks nf vs es) (.exit i) (mkSt ts2 ks2 nf vs1 es1) :=
 h.says (by rw [e]; exact ht)
theorem Ok.tr {S : Specs} (h : Ok S) {f : FuncId} {d : Nat} {hs : List Hn} {l : List AV} {r : AV} {t : Dt AV} (e : evTreeD (CS S) d f l hs = t) (ht : t.ok r) : Cmp f l r := h.evD (by rw [e]; exact ht)
theorem Ok.tr0 {S : Specs} (h : Ok S) {f : FuncId} {d : Nat} {l : List AV} {r : AV} (e : evTree (CS S) d f l = some r) : Cmp f l r := h.ev e
def SL : Specs := ((Tr.leaf.set 161 joinG).set 163 itoaG)
theorem SL_ok : Ok SL := ((SpecsOk.leaf.set join_holds).set itoa_holds)
abbrev asks (C : Cx) (f : FuncId) (l : List AV) (r : AV) : Prop := l = l ∧ C.spec f l = some r
inductive An where
 | f (n : FuncId)
 | q (n : FuncId) (l : List AV)
 | r (n : FuncId) (l : List AV)
 | b (x : Bool)
 | t (i n : Nat)
 | g (es : List AV) (i : Nat)
 | l (nt : Nat) (f b nf : Nat) (vs : List AV) (es : List (Bool × Blk))
 | p (P : Prop)
 | k (P : Prop)
 | s
abbrev apn (m : Nat) (rs : List AV) (sz : Nat) (xs : List AV) (bt : Nat) : Prop := m = rs.length ∧ true = true ∧ sz = sz ∧ (rs ++ xs).length * bt ≤ 35184372088832 ∧ (rs ++ xs).length ≤ 35184372088832 ∧ bt ≠ 0
def mkD {R : Type} (S : Specs) : List An → List Hn → Dt R → Dt R
 | [], _, t => t
 | .f n :: a, .sp l r :: h, t => .need (asks (CS S) n l r) (mkD S a h t)
 | .q n l :: a, .sp l2 r :: h, t => .need (l = l2 ∧ (CS S).spec n l = some r) (mkD S a h t)
 | .r n l :: a, .sp l2 r :: h, t => .need (l = l2 ∧ (CS S).spec n l2 = some r) (mkD S a h t)
 | .b x :: a, .as _ v :: h, t => .need (x = v) (mkD S a h t)
 | .t i n :: a, .as _ v :: h, t => .need (decide (Int.ofNat i < Int.ofNat n) = v) (mkD S a h t)
 | .g es i :: a, .chk (e :: _) :: h, t => .need (es[i]? = some e) (mkD S a h t)
 | .l nt f b nf vs es :: a, .loop p ts ks ts2 ks2 ex vs2 es2 :: h, t => .need (EnC es ∧ EnC es2 ∧ Says (CS S) p nt false (.loop (lO (CS S) f b)) (mkSt ts ks nf vs es) ex (mkSt ts2 ks2 nf vs2 es2)) (mkD S a h t)
 | .p P :: a, h, t => .need P (mkD S a h t)
 | .k P :: a, _ :: h, t => .need P (mkD S a h t)
 | .s :: a, _ :: h, t => mkD S a h t
 | _, _, _ => .done none
abbrev L (S : Specs) (f : FuncId) (l : List AV) (h : List Hn) (a : List An) (r : AV) : Prop := evTreeD (CS S) 60 f l h = mkD S a h (.done (some r))
theorem kR {S : Specs} {f : FuncId} {l : List AV} {h : List Hn} {a : List An} {r : AV} (e : evTreeD (CS S) 60 f l h = mkD S a h (.done (some r))) : L S f l h a r := e
abbrev Lq (S : Specs) (p f fb nt nf b : Nat) (ts : List Tmp) (ks : List Nat) (ts1 : List Tmp) (ks1 : List Nat) (ts2 : List Tmp) (ks2 : List Nat) (vs : List AV) (es : List (Bool × Blk)) (h : List Hn) (a : List An) (ex : Ex) (vs1 : List AV) (es1 : List (Bool × Blk)) : Prop :=
 roundD (CS S) 60 p f fb nt nf false (lO (CS S) f b) ts ks ts1 ks1 ts2 ks2 vs es h = mkD S a h (.need (EnC es1) (.done (some (ex, vs1, es1))))
theorem kQ {S : Specs} {p f fb nt nf b : Nat} {ts : List Tmp} {ks : List Nat} {ts1 : List Tmp} {ks1 : List Nat} {ts2 : List Tmp} {ks2 : List Nat} {vs : List AV} {es : List (Bool × Blk)} {h : List Hn} {a : List An} {ex : Ex} {vs1 : List AV} {es1 : List (Bool × Blk)}
  (e : roundD (CS S) 60 p f fb nt nf false (lO (CS S) f b) ts ks ts1 ks1 ts2 ks2 vs es h = mkD S a h (.need (EnC es1) (.done (some (ex, vs1, es1))))) : Lq S p f fb nt nf b ts ks ts1 ks1 ts2 ks2 vs es h a ex vs1 es1 := e
abbrev Lr (S : Specs) (f nt b : Nat) (ts : List Tmp) (ks : List Nat) (ts1 : List Tmp) (ks1 : List Nat) (ts2 : List Tmp) (ks2 : List Nat) (vs : List AV) (es : List (Bool × Blk)) (h : List Hn) (a : List An) (ex : Ex) (vs1 : List AV) (es1 : List (Bool × Blk)) : Prop :=
 Lq S 0 f 0 nt nt b ts ks ts1 ks1 ts2 ks2 vs es h a ex vs1 es1
theorem kN {S : Specs} {f nt b : Nat} {ts : List Tmp} {ks : List Nat} {ts1 : List Tmp} {ks1 : List Nat} {ts2 : List Tmp} {ks2 : List Nat} {vs : List AV} {es : List (Bool × Blk)} {h : List Hn} {a : List An} {ex : Ex} {vs1 : List AV} {es1 : List (Bool × Blk)}
  (e : roundD (CS S) 60 0 f 0 nt nt false (lO (CS S) f b) ts ks ts1 ks1 ts2 ks2 vs es h = mkD S a h (.need (EnC es1) (.done (some (ex, vs1, es1))))) : Lr S f nt b ts ks ts1 ks1 ts2 ks2 vs es h a ex vs1 es1 := e
abbrev ak {R : Type} (S : Specs) (f : FuncId) (l : List AV) (r : AV) (t : Dt R) : Dt R := .need (asks (CS S) f l r) t
abbrev dn {R : Type} (es : List (Bool × Blk)) (r : R) : Dt R := .need (EnC es) (.done (some r))
noncomputable abbrev ev (S : Specs) (f : FuncId) (l : List AV) (h : List Hn) : Dt AV := evTreeD (CS S) 60 f l h
noncomputable abbrev rn (S : Specs) (f nt bid : Nat) (ts : List Tmp) (ks : List Nat) (ts1 : List Tmp) (ks1 : List Nat) (ts2 : List Tmp) (ks2 : List Nat) (vs : List AV) (es : List (Bool × Blk)) (h : List Hn) : Dt (Ex × List AV × List (Bool × Blk)) := roundD (CS S) 60 0 f 0 nt nt false (lO (CS S) f bid) ts ks ts1 ks1 ts2 ks2 vs es h
end Go.Vm.S3
