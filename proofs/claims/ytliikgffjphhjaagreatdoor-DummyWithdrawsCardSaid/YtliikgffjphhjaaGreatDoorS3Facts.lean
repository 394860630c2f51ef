/- What the program is, once for every law; a claim's closed facts, part by part (one kernel call each, for the sake of memory). -/
import Derived.Test.YtliikgffjphhjaaGreatDoorS3Entry
namespace Go.Vm.S3
open Go.Proofs Go.RowKit Go.ChangeShapes Go.WideShapes
open Go.Proofs.YtliikgffjphhjaaGreatDoor
set_option maxRecDepth 100000
theorem pMaps : mapsRowed Tryz.prog = true := by kernel_rfl
theorem pHeard : Tryz.prog.stopsHeard = true := by kernel_rfl
theorem pEnter : Tryz.prog.mayEnter = true := by kernel_rfl
theorem pKeys : Rows.dummyMomentsRow.plainKeys = Tryz.prog.plainKeys := by kernel_rfl
theorem pLifted : Rows.dummyMomentsRow.lifted = Tryz.prog.liftsFinal := by kernel_rfl
theorem pMake : Tryz.prog.make = some Rows.dummyMomentsRow.make := by kernel_rfl
theorem pStops : Tryz.prog.stops = [] := by kernel_rfl
theorem pStopKnobs : Tryz.prog.stopKnobs = [] := by kernel_rfl
theorem bandE {a b : Bool} : (a && b) = true ↔ a = true ∧ b = true := by cases a <;> simp
def restFacts (P : Program) (fn : Func) (s : ChangeSpec) (c : OpenClaim) : Bool :=
 c.wf (OpenSpec.ofChange s) && fn.params.all (P.readableRec ·) && namedTie P c.named s.vars && (c.stops == []) && (c.knobs == []) &&
 (c.maps == (fn.params.toList ++ s.plain.varTypes P).any (P.mapsRec ·)) && (c.ifaces == (fn.params.toList ++ s.plain.varTypes P).any (P.ifacesRec ·)) && (c.mapsOut == P.mapsAmong fn.resultTypes.toList) &&
 (c.loops == (fn.params.toList ++ s.plain.varTypes P).any (P.loopsFrom ·)) && (c.wideKeys == (fn.params.toList ++ s.plain.varTypes P ++ fn.resultTypes.toList).any (P.wideKeysFrom ·)) &&
 s.vars.all (P.varReadable ·) && fn.resultTypes.all (fun t => P.readableRec t && decide (t < P.types.size)) && (c.ifacesOut == fn.resultTypes.toList.any (P.ifacesRec ·)) && (c.loopsOut == fn.resultTypes.toList.any (P.loopsFrom ·)) && c.shortTexts.isNone &&
 (c.kinds == (if c.domain.isEmpty then [] else fn.params.toList.map fun t => match P.underlying t with | some (.int k) => some k | _ => none)) && (c.pinned == c.pinnedBy) &&
 (c.veiled == (fn.params.toList ++ s.plain.varTypes P ++ fn.resultTypes.toList).any (P.veiledRec ·)) && c.veiledFits P fn.params.toList (fn.params.toList ++ s.plain.varTypes P ++ fn.resultTypes.toList)
theorem joined_of {P : Program} {f : FuncId} {fn : Func} {s : ChangeSpec} {c : OpenClaim} (hr : restFacts P fn s c = true) (h1 : laidOutB P = true) (h2 : mapsRowed P = true) (h3 : P.stops = []) (h4 : P.stopKnobs = [])
  (h5 : c.inPlace = P.inPlace f) (h6 : c.unfollowed = P.unfollowed f) (h7 : c.recurses = P.recurses f) (h8 : c.named = P.varsNamed f) (h9 : c.plainKeys = P.plainKeys) (h10 : P.stopsHeard = true) (h11 : P.mayEnter = true) (h12 : c.lifted = P.liftsFinal) (h13 : P.make = some c.make) :
  joinedFacts P f fn s c = true := by
 unfold restFacts at hr
 unfold joinedFacts
 simp only [bandE, beq_iff_eq] at hr ⊢
 obtain ⟨⟨⟨⟨⟨⟨⟨⟨⟨⟨⟨⟨⟨⟨⟨⟨⟨⟨a1, a2⟩, a3⟩, a4⟩, a5⟩, a6⟩, a7⟩, a8⟩, a9⟩, a10⟩, a11⟩, a12⟩, a13⟩, a14⟩, a15⟩, a16⟩, a17⟩, a18⟩, a19⟩ := hr
 exact ⟨⟨⟨⟨⟨⟨⟨⟨⟨⟨⟨⟨⟨⟨⟨⟨⟨⟨⟨⟨⟨⟨⟨⟨⟨⟨⟨⟨⟨⟨⟨a1, h1⟩, h2⟩, a2⟩, a3⟩, a4⟩, h3⟩, a5⟩, h4⟩, h5⟩, h6⟩, h7⟩, h8⟩, a6⟩, a7⟩, a8⟩, a9⟩, a10⟩, a11⟩, a12⟩, a13⟩, a14⟩, h9⟩, a15⟩, h10⟩, h11⟩, h12⟩, h13⟩, a16⟩, a17⟩, a18⟩, a19⟩
end Go.Vm.S3
