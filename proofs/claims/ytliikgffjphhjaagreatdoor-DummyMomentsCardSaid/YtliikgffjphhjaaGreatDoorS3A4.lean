/- The moment, and DummyMoments. -/
import Derived.Test.YtliikgffjphhjaaGreatDoorS3A3
import Derived.Test.YtliikgffjphhjaaGreatDoorS3Awake
namespace Go.Vm.S3
open Go.Proofs Go.RowKit
set_option maxRecDepth 100000 in
theorem t34 (m f s : V3) : evTreeD (CS S3) 60 34 [vA m, vA f, vA s] [] =
    (bif firstM [vecM (m.fst, m.snd.fst, m.snd.snd) 1000000, vecM (f.fst, f.snd.fst, f.snd.snd) 1000000, vecM (s.fst, s.snd.fst, s.snd.snd) 10000] != 0 then (.done (some (.tup [.agg [.v (.int .i64 0), .v (.int .i64 0), .v (.int .i64 0)], .v (.int .i64 (firstM [vecM (m.fst, m.snd.fst, m.snd.snd) 1000000, vecM (f.fst, f.snd.fst, f.snd.snd) 1000000, vecM (s.fst, s.snd.fst, s.snd.snd) 10000]))]))) else (.done (some (.tup [.agg [.v (.int .i64 (IntKind.i64.wrap (IntKind.i64.wrap (m.fst + IntKind.i64.wrap (s.snd.fst * f.snd.snd)) - IntKind.i64.wrap (s.snd.snd * f.snd.fst)))), .v (.int .i64 (IntKind.i64.wrap (IntKind.i64.wrap (m.snd.fst + IntKind.i64.wrap (s.snd.snd * f.fst)) - IntKind.i64.wrap (s.fst * f.snd.snd)))), .v (.int .i64 (IntKind.i64.wrap (IntKind.i64.wrap (m.snd.snd + IntKind.i64.wrap (s.fst * f.snd.fst)) - IntKind.i64.wrap (s.snd.fst * f.fst))))], .v (.int .i64 0)])))) := by kernel_rfl
set_option maxRecDepth 100000 in
theorem t36 (m f s : V3) : evTreeD (CS S3) 60 36 [vA m, vA f, vA s] [] =
    (.done (some (.agg [.v (.int .i64 (IntKind.i64.wrap (IntKind.i64.wrap (m.fst + IntKind.i64.wrap (s.snd.fst * f.snd.snd)) - IntKind.i64.wrap (s.snd.snd * f.snd.fst)))), .v (.int .i64 (IntKind.i64.wrap (IntKind.i64.wrap (m.snd.fst + IntKind.i64.wrap (s.snd.snd * f.fst)) - IntKind.i64.wrap (s.fst * f.snd.snd)))), .v (.int .i64 (IntKind.i64.wrap (IntKind.i64.wrap (m.snd.snd + IntKind.i64.wrap (s.fst * f.snd.fst)) - IntKind.i64.wrap (s.snd.fst * f.fst))))]))) := by kernel_rfl
set_option maxRecDepth 100000 in
theorem t21 (a b c : Int) : evTreeD (CS S3) 60 21 [.rsl 1 [intA a, intA b, intA c] true] [] =
    (.done (some (.v (.int .i64 (firstM [a, b, c]))))) := by kernel_rfl
set_option maxRecDepth 100000 in
theorem t32 (v w : V3) (e bad : Int) (b : Bool) : evTreeD (CS S3) 60 32 [vA v, intA e, intA bad, vA w] [.eq (gB b)] =
    (bif bad != 0 then (.need ((abin (CS S3) BinOp.eql 32 (Operand.tmp 12) (Operand.tmp 13) (AV.agg [.v (.int .i64 v.fst), .v (.int .i64 v.snd.fst), .v (.int .i64 v.snd.snd)]) (AV.agg [.v (.int .i64 0), .v (.int .i64 0), .v (.int .i64 0)])) = (some (AV.v (.bool b)))) (bif b then (.done (some (.v (.bool (bif true then e == bad else false))))) else (.done (some (.v (.bool false)))))) else (.need ((abin (CS S3) BinOp.eql 32 (Operand.tmp 12) (Operand.tmp 13) (AV.agg [.v (.int .i64 v.fst), .v (.int .i64 v.snd.fst), .v (.int .i64 v.snd.snd)]) (AV.agg [.v (.int .i64 w.fst), .v (.int .i64 w.snd.fst), .v (.int .i64 w.snd.snd)])) = (some (AV.v (.bool b)))) (bif b then (.done (some (.v (.bool (bif true then e == bad else false))))) else (.done (some (.v (.bool false))))))) := by kernel_rfl
def crossM (m f s : V3) : V3 :=
  (IntKind.i64.wrap (IntKind.i64.wrap (m.1 + IntKind.i64.wrap (s.2.1 * f.2.2)) - IntKind.i64.wrap (s.2.2 * f.2.1)),
   IntKind.i64.wrap (IntKind.i64.wrap (m.2.1 + IntKind.i64.wrap (s.2.2 * f.1)) - IntKind.i64.wrap (s.1 * f.2.2)),
   IntKind.i64.wrap (IntKind.i64.wrap (m.2.2 + IntKind.i64.wrap (s.1 * f.2.1)) - IntKind.i64.wrap (s.2.1 * f.1)))
def momErr (m f s : V3) : Int := firstM [vecM m 1000000, vecM f 1000000, vecM s 10000]
def momV (m f s : V3) : V3 := bif momErr m f s != 0 then (0, 0, 0) else crossM m f s
def momG : List AV → Option AV := sp3 vecC vecC vecC fun m f s => some (.tup [vA (momV m f s), intA (momErr m f s)])
def crossG : List AV → Option AV := sp3 vecC vecC vecC fun m f s => some (vA (crossM m f s))
def first3G : List AV → Option AV
  | [.rsl 1 [.v (.int .i64 a), .v (.int .i64 b), .v (.int .i64 c)] true] => some (intA (firstM [a, b, c]))
  | _ => none
theorem first21_ok : Holds 21 first3G := fun l r hr => by
  unfold first3G at hr
  split at hr
  · simp only [Option.some.injEq] at hr; subst hr
    exact S3_ok.tr (t21 _ _ _) rfl
  · cases hr
theorem mom_ok : Holds 34 momG := holds3 fun m f s r hr => by
  simp only [Option.some.injEq] at hr; subst hr
  refine S3_ok.tr (t34 m f s) ?_
  change (bif momErr m f s != 0 then _ else _ : Dt AV).ok _
  unfold momV
  cases hb : momErr m f s != 0 with
  | true => rfl
  | false =>
    have : momErr m f s = 0 := by simpa using hb
    rw [this]; rfl
theorem cross_ok : Holds 36 crossG := holds3 fun m f s r hr => by
  simp only [Option.some.injEq] at hr; subst hr
  exact S3_ok.tr (t36 m f s) rfl
def veqB (v w : V3) : Bool := v.1 == w.1 && (v.2.1 == w.2.1 && v.2.2 == w.2.2)
def placeM (have_ : V3) (e bad : Int) (want : V3) : Bool := veqB have_ (bif bad != 0 then (0, 0, 0) else want) && e == bad
def placeG : List AV → Option AV := sp4 vecC intC intC vecC fun v e bad w => some (gB (placeM v e bad w))
theorem place_ok : Holds 32 placeG := holds4 fun v e bad w r hr => by
  simp only [Option.some.injEq] at hr; subst hr
  refine S3_ok.tr (t32 v w e bad (veqB v (bif bad != 0 then (0, 0, 0) else w))) ?_
  unfold placeM
  cases hb : bad != 0 with
  | true =>
    refine ⟨vec_eq S3 _ _ v.1 v.2.1 v.2.2 0 0 0, ?_⟩
    simp only [cond_true]
    cases veqB v (0, 0, 0) <;> rfl
  | false =>
    refine ⟨vec_eq S3 _ _ v.1 v.2.1 v.2.2 w.1 w.2.1 w.2.2, ?_⟩
    simp only [cond_false]
    cases veqB v w <;> rfl
def awakeG : List AV → Option AV := sp0 (some (gB true))
theorem awake_ok : Holds 14 awakeG := holds0 fun r hr => by
  simp only [Option.some.injEq] at hr; subst hr
  exact SB_ok.tr0 awake_ev
def S4 : Specs := ((((S3.set 34 momG).set 36 crossG).set 21 first3G).set 32 placeG).set 14 awakeG
theorem S4_ok : Ok S4 := ((((S3_ok.set mom_ok).set cross_ok).set first21_ok).set place_ok).set awake_ok
end Go.Vm.S3
