/- The evaluator over the program, with specifications. -/
import Derived.Test.YtliikgffjphhjaaGreatDoorS3Tab
namespace Go.Vm.S3
open Go.Proofs Go.RowKit
abbrev Ok (S : Specs) : Prop := SpecsOk Tryz.prog globA S
abbrev Holds (f : FuncId) (g : List AV → Option AV) : Prop := Holds1 Tryz.prog globA f g
abbrev Cmp (f : FuncId) (l : List AV) (r : AV) : Prop := Comp Tryz.prog globA f l r
set_option maxRecDepth 100000 in
theorem Ok.ev {S : Specs} (h : Ok S) {f : FuncId} {d : Nat} {l : List AV} {r : AV} (hg : evTree (CS S) d f l = some r) : Cmp f l r :=
 SpecsOk.comp (C := CS S) (B := tabs) rfl size290 fns mixed h hg
set_option maxRecDepth 100000 in
theorem Ok.evD {S : Specs} (h : Ok S) {f : FuncId} {d : Nat} {hs : List Hn} {l : List AV} {r : AV} (hg : (evTreeD (CS S) d f l hs).ok r) : Cmp f l r :=
 SpecsOk.compD (C := CS S) (B := tabs) rfl size290 fns mixed h ⟨hg⟩
set_option maxRecDepth 100000 in
theorem Ok.says {S : Specs} (h : Ok S) {d p fid fb bid nt nf : Nat} {rd : Bool} {ts ts1 ts2 : List Tmp} {ks ks1 ks2 : List Nat} {vs vs1 : List AV} {es es1 : List (Bool × Blk)} {hs : List Hn} {ex : Ex}
  (hr : (roundD (CS S) d p fid fb nt nf rd (lO (CS S) fid bid) ts ks ts1 ks1 ts2 ks2 vs es hs).ok (ex, vs1, es1)) : Says (CS S) p nt rd (lO (CS S) fid bid) (mkSt ts ks nf vs es) ex (endSt ex ts1 ks1 ts2 ks2 nf vs1 es1) :=
 SpecsOk.roundC (C := CS S) (B := tabs) rfl size290 fns mixed h ⟨hr⟩
theorem Ok.rndN {S : Specs} (h : Ok S) {d p fid fb bid nt nf : Nat} {rd : Bool} {ts ts1 ts2 : List Tmp} {ks ks1 ks2 : List Nat} {vs vs1 : List AV} {es es1 : List (Bool × Blk)} {hs : List Hn} {t : Dt (Ex × List AV × List (Bool × Blk))}
  (e : roundD (CS S) d p fid fb nt nf rd (lO (CS S) fid bid) ts ks ts1 ks1 ts2 ks2 vs es hs = t) (ht : t.ok (.nrm, vs1, es1)) : Says (CS S) p nt rd (lO (CS S) fid bid) (mkSt ts ks nf vs es) .nrm (mkSt ts1 ks1 nf vs1 es1) :=
 h.says (by rw [e]; exact ht)
theorem Ok.rndR {S : Specs} (h : Ok S) {d p fid fb bid nt nf : Nat} {rd : Bool} {ts ts1 ts2 : List Tmp} {ks ks1 ks2 : List Nat} {vs vs1 : List AV} {es es1 : List (Bool × Blk)} {hs : List Hn} {t : Dt (Ex × List AV × List (Bool × Blk))}
  (e : roundD (CS S) d p fid fb nt nf rd (lO (CS S) fid bid) ts ks ts1 ks1 ts2 ks2 vs es hs = t) (ht : t.ok (.ret, vs1, es1)) : Says (CS S) p nt rd (lO (CS S) fid bid) (mkSt ts ks nf vs es) .ret (mkSt ts2 ks2 nf vs1 es1) :=
 h.says (by rw [e]; exact ht)
theorem Ok.rndX {S : Specs} (h : Ok S) {d p fid fb bid nt nf : Nat} {rd : Bool} {ts ts1 ts2 : List Tmp} {ks ks1 ks2 : List Nat} {vs vs1 : List AV} {es es1 : List (Bool × Blk)} {hs : List Hn} {t : Dt (Ex × List AV × List (Bool × Blk))}
  (e : roundD (CS S) d p fid fb nt nf rd (lO (CS S) fid bid) ts ks ts1 ks1 ts2 ks2 vs es hs = t) {i : Nat} (ht : t.ok (.exit i, vs1, es1)) : Says (CS S) p nt rd (lO (CS S) fid bid) (mkSt ts ks nf vs es) (.exit i) (mkSt ts2 ks2 nf vs1 es1) :=
 h.says (by rw [e]; exact ht)
theorem Ok.tr {S : Specs} (h : Ok S) {f : FuncId} {d : Nat} {hs : List Hn} {l : List AV} {r : AV} {t : Dt AV} (e : evTreeD (CS S) d f l hs = t) (ht : t.ok r) : Cmp f l r := h.evD (by rw [e]; exact ht)
theorem Ok.tr0 {S : Specs} (h : Ok S) {f : FuncId} {d : Nat} {l : List AV} {r : AV} (e : evTree (CS S) d f l = some r) : Cmp f l r := h.ev e
def SL : Specs := ((Tr.leaf.set 161 joinG).set 163 itoaG)
theorem SL_ok : Ok SL := ((SpecsOk.leaf.set join_holds).set itoa_holds)
abbrev asks (C : Cx) (f : FuncId) (l : List AV) (r : AV) : Prop := l = l ∧ C.spec f l = some r
abbrev ak {R : Type} (S : Specs) (f : FuncId) (l : List AV) (r : AV) (t : Dt R) : Dt R := .need (asks (CS S) f l r) t
abbrev dn {R : Type} (es : List (Bool × Blk)) (r : R) : Dt R := .need (EnC es) (.done (some r))
noncomputable abbrev ev (S : Specs) (f : FuncId) (l : List AV) (h : List Hn) : Dt AV := evTreeD (CS S) 60 f l h
noncomputable abbrev rn (S : Specs) (f nt bid : Nat) (ts : List Tmp) (ks : List Nat) (ts1 : List Tmp) (ks1 : List Nat) (ts2 : List Tmp) (ks2 : List Nat) (vs : List AV) (es : List (Bool × Blk)) (h : List Hn) : Dt (Ex × List AV × List (Bool × Blk)) := roundD (CS S) 60 0 f 0 nt nt false (lO (CS S) f bid) ts ks ts1 ks1 ts2 ks2 vs es h
end Go.Vm.S3
