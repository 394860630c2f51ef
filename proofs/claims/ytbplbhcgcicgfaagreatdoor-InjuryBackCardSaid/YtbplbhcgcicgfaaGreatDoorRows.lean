/-
  NARROWER THAN 'FOR EVERY INPUT', by the rows' own cells (each row's printed sentence says how): InjuryWindows: laid · InjuryLevels: laid · InjurySums: laid · InjuryRates: laid · InjuryBounds: laid · InjuryJoint: laid · InjuryMargins: laid · InjuryRanks: laid · InjuryBest: laid · InjuryWithin: laid · InjuryHolds: laid · InjuryStrings: laid · InjuryBack: laid.
  DERIVED. THE GIVEN ROWS OF THIS SEAT. 13 by the template 'for every input the law returns true; each argument reads behind the call as it read before'; 0 by the template 'total and deterministic' (their statements: YtbplbhcgcicgfaaGreatDoorTotals.lean).
  GIVEN WITH THE SEED: the statements are not yours to turn. If you find one false, say at which input.
  Laid BY PROGRAM, IN A SANDBOX (cutbox-rows.mjs): the forced cells as the released guide's own fill.sh prints them over the translation 05ef6d0dbfdf034b… (all of the seat's roots in one cut). By AI agents, Wed Nov 11 2026. No macro, syntax, notation, axiom, sorry.
-/
import Derived.Test.YtbplbhcgcicgfaaGreatDoorChecked
import GoSem.PinnedTables
import GoSem.Claim
import GoSem.ClaimJoined
import GoSem.ClaimMapViews
import Derived.JoinedTies
import Derived.KernelRfl
namespace Go.Proofs.YtbplbhcgcicgfaaGreatDoor
/- THE CELL 'sum', in the pinned program and in every row, IS THE sha256 OF THE DUMP (.gsa) THAT YtbplbhcgcicgfaaGreatDoorProg.lean LOADS. Nothing in Lean hashes anything: it is a label: what it is worth is what the hold of that sum in a sandbox is worth. -/
noncomputable def Tryz.pinned : Pinned := { name := "ytbplbhcgcicgfaagreatdoor", sum := "05ef6d0dbfdf034b1b23f28119c75e6b7f6d7ebf2b2f20bf470a0963e94c1f05", checked := Tryz.checked }
namespace Rows
def none {H : Type} : Left H := { results := [], args := [] }

/- WHAT THE LISTED PACKAGE-LEVEL VARIABLES READ AS WHEN THE CALL BEGINS. Each datum BY PROGRAM (the guide's laid-datum.mjs) off the statement by which the dump's own 'gosem.cut.vars' lays the variable. In a bare row this is a premise. The card (YtbplbhcgcicgfaaGreatDoorCards.lean) ties it to the program's text. -/
def laid_math_bits_deBruijn32tab {H : Type} : DataW H := .agg [.lit (.int .u8 0), .lit (.int .u8 1), .lit (.int .u8 28), .lit (.int .u8 2), .lit (.int .u8 29), .lit (.int .u8 14), .lit (.int .u8 24), .lit (.int .u8 3), .lit (.int .u8 30), .lit (.int .u8 22), .lit (.int .u8 20), .lit (.int .u8 15), .lit (.int .u8 25), .lit (.int .u8 17), .lit (.int .u8 4), .lit (.int .u8 8), .lit (.int .u8 31), .lit (.int .u8 27), .lit (.int .u8 13), .lit (.int .u8 23), .lit (.int .u8 21), .lit (.int .u8 19), .lit (.int .u8 16), .lit (.int .u8 7), .lit (.int .u8 26), .lit (.int .u8 12), .lit (.int .u8 18), .lit (.int .u8 6), .lit (.int .u8 11), .lit (.int .u8 5), .lit (.int .u8 10), .lit (.int .u8 9)]
def laid_math_bits_deBruijn64tab {H : Type} : DataW H := .agg [.lit (.int .u8 0), .lit (.int .u8 1), .lit (.int .u8 56), .lit (.int .u8 2), .lit (.int .u8 57), .lit (.int .u8 49), .lit (.int .u8 28), .lit (.int .u8 3), .lit (.int .u8 61), .lit (.int .u8 58), .lit (.int .u8 42), .lit (.int .u8 50), .lit (.int .u8 38), .lit (.int .u8 29), .lit (.int .u8 17), .lit (.int .u8 4), .lit (.int .u8 62), .lit (.int .u8 47), .lit (.int .u8 59), .lit (.int .u8 36), .lit (.int .u8 45), .lit (.int .u8 43), .lit (.int .u8 51), .lit (.int .u8 22), .lit (.int .u8 53), .lit (.int .u8 39), .lit (.int .u8 33), .lit (.int .u8 30), .lit (.int .u8 24), .lit (.int .u8 18), .lit (.int .u8 12), .lit (.int .u8 5), .lit (.int .u8 63), .lit (.int .u8 55), .lit (.int .u8 48), .lit (.int .u8 27), .lit (.int .u8 60), .lit (.int .u8 41), .lit (.int .u8 37), .lit (.int .u8 16), .lit (.int .u8 46), .lit (.int .u8 35), .lit (.int .u8 44), .lit (.int .u8 21), .lit (.int .u8 52), .lit (.int .u8 32), .lit (.int .u8 23), .lit (.int .u8 11), .lit (.int .u8 54), .lit (.int .u8 26), .lit (.int .u8 40), .lit (.int .u8 15), .lit (.int .u8 34), .lit (.int .u8 20), .lit (.int .u8 31), .lit (.int .u8 10), .lit (.int .u8 25), .lit (.int .u8 14), .lit (.int .u8 19), .lit (.int .u8 9), .lit (.int .u8 13), .lit (.int .u8 8), .lit (.int .u8 7), .lit (.int .u8 6)]
def laid_internal_strconv_uint64pow10 {H : Type} : DataW H := .agg [.lit (.int .u64 1), .lit (.int .u64 10), .lit (.int .u64 100), .lit (.int .u64 1000), .lit (.int .u64 10000), .lit (.int .u64 100000), .lit (.int .u64 1000000), .lit (.int .u64 10000000), .lit (.int .u64 100000000), .lit (.int .u64 1000000000), .lit (.int .u64 10000000000), .lit (.int .u64 100000000000), .lit (.int .u64 1000000000000), .lit (.int .u64 10000000000000), .lit (.int .u64 100000000000000), .lit (.int .u64 1000000000000000), .lit (.int .u64 10000000000000000), .lit (.int .u64 100000000000000000), .lit (.int .u64 1000000000000000000), .lit (.int .u64 10000000000000000000)]
def laid_crumple_injury_sides {H : Type} : DataW H := .iface "func table" (.agg [.agg [.lit (.int .i64 (-1)), .iface "func" (.lit (.string [99, 114, 117, 109, 112, 108, 101, 47, 105, 110, 106, 117, 114, 121, 46, 115, 105, 100, 101, 115, 36, 49]))], .agg [.lit (.int .i64 1), .iface "func" (.lit (.string [99, 114, 117, 109, 112, 108, 101, 47, 105, 110, 106, 117, 114, 121, 46, 115, 105, 100, 101, 115, 36, 50]))]])
def laid_unicode_utf8_acceptRanges {H : Type} : DataW H := .agg [.agg [.lit (.int .u8 128), .lit (.int .u8 191)], .agg [.lit (.int .u8 160), .lit (.int .u8 191)], .agg [.lit (.int .u8 128), .lit (.int .u8 159)], .agg [.lit (.int .u8 144), .lit (.int .u8 191)], .agg [.lit (.int .u8 128), .lit (.int .u8 143)], .agg [.lit (.int .u8 0), .lit (.int .u8 0)], .agg [.lit (.int .u8 0), .lit (.int .u8 0)], .agg [.lit (.int .u8 0), .lit (.int .u8 0)], .agg [.lit (.int .u8 0), .lit (.int .u8 0)], .agg [.lit (.int .u8 0), .lit (.int .u8 0)], .agg [.lit (.int .u8 0), .lit (.int .u8 0)], .agg [.lit (.int .u8 0), .lit (.int .u8 0)], .agg [.lit (.int .u8 0), .lit (.int .u8 0)], .agg [.lit (.int .u8 0), .lit (.int .u8 0)], .agg [.lit (.int .u8 0), .lit (.int .u8 0)], .agg [.lit (.int .u8 0), .lit (.int .u8 0)]]
/-- One of Go's own tables, pinned by name: the form's constant. -/
def laid_unicode_utf8_first : DataW Unit := Go.Pinned.utf8First

/-- 'crumplelaw06.InjuryWindows': WHATEVER THE INPUT: true; the input reads as it did. -/
def injuryWindowsSpec : ChangeSpec := { name := "injuryWindows", fn := fun _ => fun
  | [d1, d2] => { results := [.lit (.bool true)], args := [d1, d2] }
  | _ => none }
def injuryWindowsRow : OpenClaim := { program := "ytbplbhcgcicgfaagreatdoor", sum := "05ef6d0dbfdf034b1b23f28119c75e6b7f6d7ebf2b2f20bf470a0963e94c1f05", func := "crumple/crumplelaw06.InjuryWindows", spec := "injuryWindows", inPlace := ["internal/abi.NoEscape", "internal/bytealg.MakeNoZero"], unfollowed := true, recurses := true, named := ["crumple/injury.sides", "internal/strconv.uint64pow10", "math/bits.deBruijn32tab", "math/bits.deBruijn64tab"], apart := false, laid := [("math/bits.deBruijn32tab", laid_math_bits_deBruijn32tab), ("math/bits.deBruijn64tab", laid_math_bits_deBruijn64tab), ("internal/strconv.uint64pow10", laid_internal_strconv_uint64pow10), ("crumple/injury.sides", laid_crumple_injury_sides)] }
def InjuryWindowsSaid : Prop := injuryWindowsRow.holds Tryz.pinned (OpenSpec.ofChange injuryWindowsSpec)

/-- ITS FALSE NEIGHBOUR: 'it returns false'. Refute it at one input. -/
def injuryWindowsWrong : ChangeSpec := { name := "injuryWindows", fn := fun _ => fun
  | [d1, d2] => { results := [.lit (.bool false)], args := [d1, d2] }
  | _ => none }
def InjuryWindowsWrongFalsely : Prop := injuryWindowsRow.holds Tryz.pinned (OpenSpec.ofChange injuryWindowsWrong)

/-- 'crumplelaw06.InjuryLevels': WHATEVER THE INPUT: true; the input reads as it did. -/
def injuryLevelsSpec : ChangeSpec := { name := "injuryLevels", fn := fun _ => fun
  | [d1, d2, d3] => { results := [.lit (.bool true)], args := [d1, d2, d3] }
  | _ => none }
def injuryLevelsRow : OpenClaim := { program := "ytbplbhcgcicgfaagreatdoor", sum := "05ef6d0dbfdf034b1b23f28119c75e6b7f6d7ebf2b2f20bf470a0963e94c1f05", func := "crumple/crumplelaw06.InjuryLevels", spec := "injuryLevels", inPlace := ["internal/abi.NoEscape", "internal/bytealg.MakeNoZero"], unfollowed := true, recurses := true, named := ["crumple/injury.sides", "internal/strconv.uint64pow10", "math/bits.deBruijn32tab", "math/bits.deBruijn64tab"], apart := false, laid := [("math/bits.deBruijn32tab", laid_math_bits_deBruijn32tab), ("math/bits.deBruijn64tab", laid_math_bits_deBruijn64tab), ("internal/strconv.uint64pow10", laid_internal_strconv_uint64pow10), ("crumple/injury.sides", laid_crumple_injury_sides)] }
def InjuryLevelsSaid : Prop := injuryLevelsRow.holds Tryz.pinned (OpenSpec.ofChange injuryLevelsSpec)

/-- ITS FALSE NEIGHBOUR: 'it returns false'. Refute it at one input. -/
def injuryLevelsWrong : ChangeSpec := { name := "injuryLevels", fn := fun _ => fun
  | [d1, d2, d3] => { results := [.lit (.bool false)], args := [d1, d2, d3] }
  | _ => none }
def InjuryLevelsWrongFalsely : Prop := injuryLevelsRow.holds Tryz.pinned (OpenSpec.ofChange injuryLevelsWrong)

/-- 'crumplelaw06.InjurySums': WHATEVER THE INPUT: true; the input reads as it did. -/
def injurySumsSpec : ChangeSpec := { name := "injurySums", fn := fun _ => fun
  | [d1, d2, d3] => { results := [.lit (.bool true)], args := [d1, d2, d3] }
  | _ => none }
def injurySumsRow : OpenClaim := { program := "ytbplbhcgcicgfaagreatdoor", sum := "05ef6d0dbfdf034b1b23f28119c75e6b7f6d7ebf2b2f20bf470a0963e94c1f05", func := "crumple/crumplelaw06.InjurySums", spec := "injurySums", inPlace := ["internal/abi.NoEscape", "internal/bytealg.MakeNoZero"], unfollowed := true, recurses := true, named := ["crumple/injury.sides", "internal/strconv.uint64pow10", "math/bits.deBruijn32tab", "math/bits.deBruijn64tab"], apart := false, laid := [("math/bits.deBruijn32tab", laid_math_bits_deBruijn32tab), ("math/bits.deBruijn64tab", laid_math_bits_deBruijn64tab), ("internal/strconv.uint64pow10", laid_internal_strconv_uint64pow10), ("crumple/injury.sides", laid_crumple_injury_sides)] }
def InjurySumsSaid : Prop := injurySumsRow.holds Tryz.pinned (OpenSpec.ofChange injurySumsSpec)

/-- ITS FALSE NEIGHBOUR: 'it returns false'. Refute it at one input. -/
def injurySumsWrong : ChangeSpec := { name := "injurySums", fn := fun _ => fun
  | [d1, d2, d3] => { results := [.lit (.bool false)], args := [d1, d2, d3] }
  | _ => none }
def InjurySumsWrongFalsely : Prop := injurySumsRow.holds Tryz.pinned (OpenSpec.ofChange injurySumsWrong)

/-- 'crumplelaw06.InjuryRates': WHATEVER THE INPUT: true; the input reads as it did. -/
def injuryRatesSpec : ChangeSpec := { name := "injuryRates", fn := fun _ => fun
  | [d1, d2] => { results := [.lit (.bool true)], args := [d1, d2] }
  | _ => none }
def injuryRatesRow : OpenClaim := { program := "ytbplbhcgcicgfaagreatdoor", sum := "05ef6d0dbfdf034b1b23f28119c75e6b7f6d7ebf2b2f20bf470a0963e94c1f05", func := "crumple/crumplelaw06.InjuryRates", spec := "injuryRates", inPlace := ["internal/abi.NoEscape", "internal/bytealg.MakeNoZero"], unfollowed := true, recurses := true, named := ["crumple/injury.sides", "internal/strconv.uint64pow10", "math/bits.deBruijn32tab", "math/bits.deBruijn64tab"], apart := false, laid := [("math/bits.deBruijn32tab", laid_math_bits_deBruijn32tab), ("math/bits.deBruijn64tab", laid_math_bits_deBruijn64tab), ("internal/strconv.uint64pow10", laid_internal_strconv_uint64pow10), ("crumple/injury.sides", laid_crumple_injury_sides)] }
def InjuryRatesSaid : Prop := injuryRatesRow.holds Tryz.pinned (OpenSpec.ofChange injuryRatesSpec)

/-- ITS FALSE NEIGHBOUR: 'it returns false'. Refute it at one input. -/
def injuryRatesWrong : ChangeSpec := { name := "injuryRates", fn := fun _ => fun
  | [d1, d2] => { results := [.lit (.bool false)], args := [d1, d2] }
  | _ => none }
def InjuryRatesWrongFalsely : Prop := injuryRatesRow.holds Tryz.pinned (OpenSpec.ofChange injuryRatesWrong)

/-- 'crumplelaw06.InjuryBounds': WHATEVER THE INPUT: true; the input reads as it did. -/
def injuryBoundsSpec : ChangeSpec := { name := "injuryBounds", fn := fun _ => fun
  | [d1, d2, d3] => { results := [.lit (.bool true)], args := [d1, d2, d3] }
  | _ => none }
def injuryBoundsRow : OpenClaim := { program := "ytbplbhcgcicgfaagreatdoor", sum := "05ef6d0dbfdf034b1b23f28119c75e6b7f6d7ebf2b2f20bf470a0963e94c1f05", func := "crumple/crumplelaw06.InjuryBounds", spec := "injuryBounds", inPlace := ["internal/abi.NoEscape", "internal/bytealg.MakeNoZero"], unfollowed := true, recurses := true, named := ["crumple/injury.sides", "internal/strconv.uint64pow10", "math/bits.deBruijn32tab", "math/bits.deBruijn64tab"], apart := false, laid := [("math/bits.deBruijn32tab", laid_math_bits_deBruijn32tab), ("math/bits.deBruijn64tab", laid_math_bits_deBruijn64tab), ("internal/strconv.uint64pow10", laid_internal_strconv_uint64pow10), ("crumple/injury.sides", laid_crumple_injury_sides)] }
def InjuryBoundsSaid : Prop := injuryBoundsRow.holds Tryz.pinned (OpenSpec.ofChange injuryBoundsSpec)

/-- ITS FALSE NEIGHBOUR: 'it returns false'. Refute it at one input. -/
def injuryBoundsWrong : ChangeSpec := { name := "injuryBounds", fn := fun _ => fun
  | [d1, d2, d3] => { results := [.lit (.bool false)], args := [d1, d2, d3] }
  | _ => none }
def InjuryBoundsWrongFalsely : Prop := injuryBoundsRow.holds Tryz.pinned (OpenSpec.ofChange injuryBoundsWrong)

/-- 'crumplelaw06.InjuryJoint': WHATEVER THE INPUT: true; the input reads as it did. -/
def injuryJointSpec : ChangeSpec := { name := "injuryJoint", fn := fun _ => fun
  | [d1, d2, d3] => { results := [.lit (.bool true)], args := [d1, d2, d3] }
  | _ => none }
def injuryJointRow : OpenClaim := { program := "ytbplbhcgcicgfaagreatdoor", sum := "05ef6d0dbfdf034b1b23f28119c75e6b7f6d7ebf2b2f20bf470a0963e94c1f05", func := "crumple/crumplelaw06.InjuryJoint", spec := "injuryJoint", inPlace := ["internal/abi.NoEscape", "internal/bytealg.MakeNoZero"], unfollowed := true, recurses := true, named := ["crumple/injury.sides", "internal/strconv.uint64pow10", "math/bits.deBruijn32tab", "math/bits.deBruijn64tab"], apart := false, laid := [("math/bits.deBruijn32tab", laid_math_bits_deBruijn32tab), ("math/bits.deBruijn64tab", laid_math_bits_deBruijn64tab), ("internal/strconv.uint64pow10", laid_internal_strconv_uint64pow10), ("crumple/injury.sides", laid_crumple_injury_sides)] }
def InjuryJointSaid : Prop := injuryJointRow.holds Tryz.pinned (OpenSpec.ofChange injuryJointSpec)

/-- ITS FALSE NEIGHBOUR: 'it returns false'. Refute it at one input. -/
def injuryJointWrong : ChangeSpec := { name := "injuryJoint", fn := fun _ => fun
  | [d1, d2, d3] => { results := [.lit (.bool false)], args := [d1, d2, d3] }
  | _ => none }
def InjuryJointWrongFalsely : Prop := injuryJointRow.holds Tryz.pinned (OpenSpec.ofChange injuryJointWrong)

/-- 'crumplelaw06.InjuryMargins': WHATEVER THE INPUT: true; the input reads as it did. -/
def injuryMarginsSpec : ChangeSpec := { name := "injuryMargins", fn := fun _ => fun
  | [d1, d2, d3] => { results := [.lit (.bool true)], args := [d1, d2, d3] }
  | _ => none }
def injuryMarginsRow : OpenClaim := { program := "ytbplbhcgcicgfaagreatdoor", sum := "05ef6d0dbfdf034b1b23f28119c75e6b7f6d7ebf2b2f20bf470a0963e94c1f05", func := "crumple/crumplelaw06.InjuryMargins", spec := "injuryMargins", inPlace := ["internal/abi.NoEscape", "internal/bytealg.MakeNoZero"], unfollowed := true, recurses := true, named := ["crumple/injury.sides", "internal/strconv.uint64pow10", "math/bits.deBruijn32tab", "math/bits.deBruijn64tab"], apart := false, laid := [("math/bits.deBruijn32tab", laid_math_bits_deBruijn32tab), ("math/bits.deBruijn64tab", laid_math_bits_deBruijn64tab), ("internal/strconv.uint64pow10", laid_internal_strconv_uint64pow10), ("crumple/injury.sides", laid_crumple_injury_sides)] }
def InjuryMarginsSaid : Prop := injuryMarginsRow.holds Tryz.pinned (OpenSpec.ofChange injuryMarginsSpec)

/-- ITS FALSE NEIGHBOUR: 'it returns false'. Refute it at one input. -/
def injuryMarginsWrong : ChangeSpec := { name := "injuryMargins", fn := fun _ => fun
  | [d1, d2, d3] => { results := [.lit (.bool false)], args := [d1, d2, d3] }
  | _ => none }
def InjuryMarginsWrongFalsely : Prop := injuryMarginsRow.holds Tryz.pinned (OpenSpec.ofChange injuryMarginsWrong)

/-- 'crumplelaw06.InjuryRanks': WHATEVER THE INPUT: true; the input reads as it did. -/
def injuryRanksSpec : ChangeSpec := { name := "injuryRanks", fn := fun _ => fun
  | [d] => { results := [.lit (.bool true)], args := [d] }
  | _ => none }
def injuryRanksRow : OpenClaim := { program := "ytbplbhcgcicgfaagreatdoor", sum := "05ef6d0dbfdf034b1b23f28119c75e6b7f6d7ebf2b2f20bf470a0963e94c1f05", func := "crumple/crumplelaw06.InjuryRanks", spec := "injuryRanks", inPlace := ["internal/abi.NoEscape", "internal/bytealg.MakeNoZero"], unfollowed := true, recurses := true, named := ["crumple/injury.sides", "internal/strconv.uint64pow10", "math/bits.deBruijn32tab", "math/bits.deBruijn64tab"], apart := false, laid := [("math/bits.deBruijn32tab", laid_math_bits_deBruijn32tab), ("math/bits.deBruijn64tab", laid_math_bits_deBruijn64tab), ("internal/strconv.uint64pow10", laid_internal_strconv_uint64pow10), ("crumple/injury.sides", laid_crumple_injury_sides)] }
def InjuryRanksSaid : Prop := injuryRanksRow.holds Tryz.pinned (OpenSpec.ofChange injuryRanksSpec)

/-- ITS FALSE NEIGHBOUR: 'it returns false'. Refute it at one input. -/
def injuryRanksWrong : ChangeSpec := { name := "injuryRanks", fn := fun _ => fun
  | [d] => { results := [.lit (.bool false)], args := [d] }
  | _ => none }
def InjuryRanksWrongFalsely : Prop := injuryRanksRow.holds Tryz.pinned (OpenSpec.ofChange injuryRanksWrong)

/-- 'crumplelaw06.InjuryBest': WHATEVER THE INPUT: true; the input reads as it did. -/
def injuryBestSpec : ChangeSpec := { name := "injuryBest", fn := fun _ => fun
  | [d1, d2, d3] => { results := [.lit (.bool true)], args := [d1, d2, d3] }
  | _ => none }
def injuryBestRow : OpenClaim := { program := "ytbplbhcgcicgfaagreatdoor", sum := "05ef6d0dbfdf034b1b23f28119c75e6b7f6d7ebf2b2f20bf470a0963e94c1f05", func := "crumple/crumplelaw06.InjuryBest", spec := "injuryBest", inPlace := ["internal/abi.NoEscape", "internal/bytealg.MakeNoZero"], unfollowed := true, recurses := true, named := ["crumple/injury.sides", "internal/strconv.uint64pow10", "math/bits.deBruijn32tab", "math/bits.deBruijn64tab"], apart := false, laid := [("math/bits.deBruijn32tab", laid_math_bits_deBruijn32tab), ("math/bits.deBruijn64tab", laid_math_bits_deBruijn64tab), ("internal/strconv.uint64pow10", laid_internal_strconv_uint64pow10), ("crumple/injury.sides", laid_crumple_injury_sides)] }
def InjuryBestSaid : Prop := injuryBestRow.holds Tryz.pinned (OpenSpec.ofChange injuryBestSpec)

/-- ITS FALSE NEIGHBOUR: 'it returns false'. Refute it at one input. -/
def injuryBestWrong : ChangeSpec := { name := "injuryBest", fn := fun _ => fun
  | [d1, d2, d3] => { results := [.lit (.bool false)], args := [d1, d2, d3] }
  | _ => none }
def InjuryBestWrongFalsely : Prop := injuryBestRow.holds Tryz.pinned (OpenSpec.ofChange injuryBestWrong)

/-- 'crumplelaw06.InjuryWithin': WHATEVER THE INPUT: true; the input reads as it did. -/
def injuryWithinSpec : ChangeSpec := { name := "injuryWithin", fn := fun _ => fun
  | [d1, d2, d3] => { results := [.lit (.bool true)], args := [d1, d2, d3] }
  | _ => none }
def injuryWithinRow : OpenClaim := { program := "ytbplbhcgcicgfaagreatdoor", sum := "05ef6d0dbfdf034b1b23f28119c75e6b7f6d7ebf2b2f20bf470a0963e94c1f05", func := "crumple/crumplelaw06.InjuryWithin", spec := "injuryWithin", inPlace := ["internal/abi.NoEscape", "internal/bytealg.MakeNoZero"], unfollowed := true, recurses := true, named := ["crumple/injury.sides", "internal/strconv.uint64pow10", "math/bits.deBruijn32tab", "math/bits.deBruijn64tab"], apart := false, laid := [("math/bits.deBruijn32tab", laid_math_bits_deBruijn32tab), ("math/bits.deBruijn64tab", laid_math_bits_deBruijn64tab), ("internal/strconv.uint64pow10", laid_internal_strconv_uint64pow10), ("crumple/injury.sides", laid_crumple_injury_sides)] }
def InjuryWithinSaid : Prop := injuryWithinRow.holds Tryz.pinned (OpenSpec.ofChange injuryWithinSpec)

/-- ITS FALSE NEIGHBOUR: 'it returns false'. Refute it at one input. -/
def injuryWithinWrong : ChangeSpec := { name := "injuryWithin", fn := fun _ => fun
  | [d1, d2, d3] => { results := [.lit (.bool false)], args := [d1, d2, d3] }
  | _ => none }
def InjuryWithinWrongFalsely : Prop := injuryWithinRow.holds Tryz.pinned (OpenSpec.ofChange injuryWithinWrong)

/-- 'crumplelaw06.InjuryHolds': WHATEVER THE INPUT: true; the input reads as it did. -/
def injuryHoldsSpec : ChangeSpec := { name := "injuryHolds", fn := fun _ => fun
  | [d1, d2, d3] => { results := [.lit (.bool true)], args := [d1, d2, d3] }
  | _ => none }
def injuryHoldsRow : OpenClaim := { program := "ytbplbhcgcicgfaagreatdoor", sum := "05ef6d0dbfdf034b1b23f28119c75e6b7f6d7ebf2b2f20bf470a0963e94c1f05", func := "crumple/crumplelaw06.InjuryHolds", spec := "injuryHolds", inPlace := ["internal/abi.NoEscape", "internal/bytealg.MakeNoZero"], unfollowed := true, recurses := true, named := ["crumple/injury.sides", "internal/strconv.uint64pow10", "math/bits.deBruijn32tab", "math/bits.deBruijn64tab"], apart := false, laid := [("math/bits.deBruijn32tab", laid_math_bits_deBruijn32tab), ("math/bits.deBruijn64tab", laid_math_bits_deBruijn64tab), ("internal/strconv.uint64pow10", laid_internal_strconv_uint64pow10), ("crumple/injury.sides", laid_crumple_injury_sides)] }
def InjuryHoldsSaid : Prop := injuryHoldsRow.holds Tryz.pinned (OpenSpec.ofChange injuryHoldsSpec)

/-- ITS FALSE NEIGHBOUR: 'it returns false'. Refute it at one input. -/
def injuryHoldsWrong : ChangeSpec := { name := "injuryHolds", fn := fun _ => fun
  | [d1, d2, d3] => { results := [.lit (.bool false)], args := [d1, d2, d3] }
  | _ => none }
def InjuryHoldsWrongFalsely : Prop := injuryHoldsRow.holds Tryz.pinned (OpenSpec.ofChange injuryHoldsWrong)

/-- 'crumplelaw06.InjuryStrings': WHATEVER THE INPUT: true; the input reads as it did. -/
def injuryStringsSpec : ChangeSpec := { name := "injuryStrings", fn := fun _ => fun
  | [d1, d2] => { results := [.lit (.bool true)], args := [d1, d2] }
  | _ => none }
def injuryStringsRow : OpenClaim := { program := "ytbplbhcgcicgfaagreatdoor", sum := "05ef6d0dbfdf034b1b23f28119c75e6b7f6d7ebf2b2f20bf470a0963e94c1f05", func := "crumple/crumplelaw06.InjuryStrings", spec := "injuryStrings", inPlace := ["internal/abi.NoEscape", "internal/bytealg.MakeNoZero", "internal/bytealg.IndexByteString", "internal/bytealg.CountString", "internal/bytealg.IndexString"], unfollowed := true, recurses := true, named := ["crumple/injury.sides", "internal/strconv.uint64pow10", "math/bits.deBruijn32tab", "math/bits.deBruijn64tab", "unicode/utf8.first", "unicode/utf8.acceptRanges", "internal/bytealg.MaxLen"], apart := false, laid := [("math/bits.deBruijn32tab", laid_math_bits_deBruijn32tab), ("math/bits.deBruijn64tab", laid_math_bits_deBruijn64tab), ("internal/strconv.uint64pow10", laid_internal_strconv_uint64pow10), ("unicode/utf8.acceptRanges", laid_unicode_utf8_acceptRanges), ("crumple/injury.sides", laid_crumple_injury_sides), ("unicode/utf8.first", laid_unicode_utf8_first)] }
def InjuryStringsSaid : Prop := injuryStringsRow.holds Tryz.pinned (OpenSpec.ofChange injuryStringsSpec)

/-- ITS FALSE NEIGHBOUR: 'it returns false'. Refute it at one input. -/
def injuryStringsWrong : ChangeSpec := { name := "injuryStrings", fn := fun _ => fun
  | [d1, d2] => { results := [.lit (.bool false)], args := [d1, d2] }
  | _ => none }
def InjuryStringsWrongFalsely : Prop := injuryStringsRow.holds Tryz.pinned (OpenSpec.ofChange injuryStringsWrong)

/-- 'crumplelaw06.InjuryBack': WHATEVER THE INPUT: true; the input reads as it did. -/
def injuryBackSpec : ChangeSpec := { name := "injuryBack", fn := fun _ => fun
  | [d1, d2, d3] => { results := [.lit (.bool true)], args := [d1, d2, d3] }
  | _ => none }
def injuryBackRow : OpenClaim := { program := "ytbplbhcgcicgfaagreatdoor", sum := "05ef6d0dbfdf034b1b23f28119c75e6b7f6d7ebf2b2f20bf470a0963e94c1f05", func := "crumple/crumplelaw06.InjuryBack", spec := "injuryBack", inPlace := ["internal/abi.NoEscape", "internal/bytealg.MakeNoZero", "internal/bytealg.IndexByteString", "internal/bytealg.CountString", "internal/bytealg.IndexString"], unfollowed := true, recurses := true, named := ["crumple/injury.sides", "internal/strconv.uint64pow10", "math/bits.deBruijn32tab", "math/bits.deBruijn64tab", "unicode/utf8.first", "unicode/utf8.acceptRanges", "internal/bytealg.MaxLen"], apart := false, laid := [("math/bits.deBruijn32tab", laid_math_bits_deBruijn32tab), ("math/bits.deBruijn64tab", laid_math_bits_deBruijn64tab), ("internal/strconv.uint64pow10", laid_internal_strconv_uint64pow10), ("unicode/utf8.acceptRanges", laid_unicode_utf8_acceptRanges), ("crumple/injury.sides", laid_crumple_injury_sides), ("unicode/utf8.first", laid_unicode_utf8_first)] }
def InjuryBackSaid : Prop := injuryBackRow.holds Tryz.pinned (OpenSpec.ofChange injuryBackSpec)

/-- ITS FALSE NEIGHBOUR: 'it returns false'. Refute it at one input. -/
def injuryBackWrong : ChangeSpec := { name := "injuryBack", fn := fun _ => fun
  | [d1, d2, d3] => { results := [.lit (.bool false)], args := [d1, d2, d3] }
  | _ => none }
def InjuryBackWrongFalsely : Prop := injuryBackRow.holds Tryz.pinned (OpenSpec.ofChange injuryBackWrong)

/- THE SECOND FORM. 'bulk': how many values and letters a reading holds, each counted each time it is reached (what is shared counts as often as it is met; a slice's spare places count too). A statement '..UptoSaid' is the law's where the arguments, and the package variables that the reading takes, are together of bulk at most 1048576: NARROWER than '..Said'. Prove '..Said' where nothing that the law and all that it calls make is longer than what came in: it says more and counts as full. Else prove '..UptoSaid'. A law counts once. -/
mutual
def uptoBulk {H : Type} : DataW H → Nat
  | .lit (.string bytes) => bytes.length + 1
  | .lit _ => 1
  | .nil => 1
  | .ptr d => uptoBulk d + 1
  | .slice elems spare => uptoBulkAll elems + uptoBulkAll spare + 1
  | .agg parts => uptoBulkAll parts + 1
  | .iface _ d => uptoBulk d + 1
  | .map entries => uptoBulkEntries entries + 1
  | .held _ => 1
def uptoBulkAll {H : Type} : List (DataW H) → Nat
  | [] => 0
  | d :: r => uptoBulk d + uptoBulkAll r
def uptoBulkEntries {H : Type} : List (Lit × DataW H) → Nat
  | [] => 0
  | x :: r => uptoBulkEntry x + uptoBulkEntries r
def uptoBulkEntry {H : Type} : Lit × DataW H → Nat
  | (.string bytes, d) => bytes.length + uptoBulk d + 1
  | (_, d) => uptoBulk d + 1
 end
def uptoSmall : (H : Type) → List (DataW H) → Bool := fun _ ds => decide (uptoBulkAll ds ≤ 1048576)
def OpenSpec.upto (s : _root_.Go.ChangeSpec) : _root_.Go.OpenSpec := { _root_.Go.OpenSpec.ofChange s with cond := some uptoSmall }

/-- 'crumplelaw06.InjuryWindows', WHERE WHAT IT READS IS OF BULK AT MOST 1048576: true; the input reads as it did. -/
def injuryWindowsUptoRow : OpenClaim := { program := "ytbplbhcgcicgfaagreatdoor", sum := "05ef6d0dbfdf034b1b23f28119c75e6b7f6d7ebf2b2f20bf470a0963e94c1f05", func := "crumple/crumplelaw06.InjuryWindows", spec := "injuryWindows", inPlace := ["internal/abi.NoEscape", "internal/bytealg.MakeNoZero"], unfollowed := true, recurses := true, named := ["crumple/injury.sides", "internal/strconv.uint64pow10", "math/bits.deBruijn32tab", "math/bits.deBruijn64tab"], apart := false, laid := [("math/bits.deBruijn32tab", laid_math_bits_deBruijn32tab), ("math/bits.deBruijn64tab", laid_math_bits_deBruijn64tab), ("internal/strconv.uint64pow10", laid_internal_strconv_uint64pow10), ("crumple/injury.sides", laid_crumple_injury_sides)], narrowed := true }
def InjuryWindowsUptoSaid : Prop := injuryWindowsUptoRow.holds Tryz.pinned (OpenSpec.upto injuryWindowsSpec)

/-- 'crumplelaw06.InjuryLevels', WHERE WHAT IT READS IS OF BULK AT MOST 1048576: true; the input reads as it did. -/
def injuryLevelsUptoRow : OpenClaim := { program := "ytbplbhcgcicgfaagreatdoor", sum := "05ef6d0dbfdf034b1b23f28119c75e6b7f6d7ebf2b2f20bf470a0963e94c1f05", func := "crumple/crumplelaw06.InjuryLevels", spec := "injuryLevels", inPlace := ["internal/abi.NoEscape", "internal/bytealg.MakeNoZero"], unfollowed := true, recurses := true, named := ["crumple/injury.sides", "internal/strconv.uint64pow10", "math/bits.deBruijn32tab", "math/bits.deBruijn64tab"], apart := false, laid := [("math/bits.deBruijn32tab", laid_math_bits_deBruijn32tab), ("math/bits.deBruijn64tab", laid_math_bits_deBruijn64tab), ("internal/strconv.uint64pow10", laid_internal_strconv_uint64pow10), ("crumple/injury.sides", laid_crumple_injury_sides)], narrowed := true }
def InjuryLevelsUptoSaid : Prop := injuryLevelsUptoRow.holds Tryz.pinned (OpenSpec.upto injuryLevelsSpec)

/-- 'crumplelaw06.InjurySums', WHERE WHAT IT READS IS OF BULK AT MOST 1048576: true; the input reads as it did. -/
def injurySumsUptoRow : OpenClaim := { program := "ytbplbhcgcicgfaagreatdoor", sum := "05ef6d0dbfdf034b1b23f28119c75e6b7f6d7ebf2b2f20bf470a0963e94c1f05", func := "crumple/crumplelaw06.InjurySums", spec := "injurySums", inPlace := ["internal/abi.NoEscape", "internal/bytealg.MakeNoZero"], unfollowed := true, recurses := true, named := ["crumple/injury.sides", "internal/strconv.uint64pow10", "math/bits.deBruijn32tab", "math/bits.deBruijn64tab"], apart := false, laid := [("math/bits.deBruijn32tab", laid_math_bits_deBruijn32tab), ("math/bits.deBruijn64tab", laid_math_bits_deBruijn64tab), ("internal/strconv.uint64pow10", laid_internal_strconv_uint64pow10), ("crumple/injury.sides", laid_crumple_injury_sides)], narrowed := true }
def InjurySumsUptoSaid : Prop := injurySumsUptoRow.holds Tryz.pinned (OpenSpec.upto injurySumsSpec)

/-- 'crumplelaw06.InjuryRates', WHERE WHAT IT READS IS OF BULK AT MOST 1048576: true; the input reads as it did. -/
def injuryRatesUptoRow : OpenClaim := { program := "ytbplbhcgcicgfaagreatdoor", sum := "05ef6d0dbfdf034b1b23f28119c75e6b7f6d7ebf2b2f20bf470a0963e94c1f05", func := "crumple/crumplelaw06.InjuryRates", spec := "injuryRates", inPlace := ["internal/abi.NoEscape", "internal/bytealg.MakeNoZero"], unfollowed := true, recurses := true, named := ["crumple/injury.sides", "internal/strconv.uint64pow10", "math/bits.deBruijn32tab", "math/bits.deBruijn64tab"], apart := false, laid := [("math/bits.deBruijn32tab", laid_math_bits_deBruijn32tab), ("math/bits.deBruijn64tab", laid_math_bits_deBruijn64tab), ("internal/strconv.uint64pow10", laid_internal_strconv_uint64pow10), ("crumple/injury.sides", laid_crumple_injury_sides)], narrowed := true }
def InjuryRatesUptoSaid : Prop := injuryRatesUptoRow.holds Tryz.pinned (OpenSpec.upto injuryRatesSpec)

/-- 'crumplelaw06.InjuryBounds', WHERE WHAT IT READS IS OF BULK AT MOST 1048576: true; the input reads as it did. -/
def injuryBoundsUptoRow : OpenClaim := { program := "ytbplbhcgcicgfaagreatdoor", sum := "05ef6d0dbfdf034b1b23f28119c75e6b7f6d7ebf2b2f20bf470a0963e94c1f05", func := "crumple/crumplelaw06.InjuryBounds", spec := "injuryBounds", inPlace := ["internal/abi.NoEscape", "internal/bytealg.MakeNoZero"], unfollowed := true, recurses := true, named := ["crumple/injury.sides", "internal/strconv.uint64pow10", "math/bits.deBruijn32tab", "math/bits.deBruijn64tab"], apart := false, laid := [("math/bits.deBruijn32tab", laid_math_bits_deBruijn32tab), ("math/bits.deBruijn64tab", laid_math_bits_deBruijn64tab), ("internal/strconv.uint64pow10", laid_internal_strconv_uint64pow10), ("crumple/injury.sides", laid_crumple_injury_sides)], narrowed := true }
def InjuryBoundsUptoSaid : Prop := injuryBoundsUptoRow.holds Tryz.pinned (OpenSpec.upto injuryBoundsSpec)

/-- 'crumplelaw06.InjuryJoint', WHERE WHAT IT READS IS OF BULK AT MOST 1048576: true; the input reads as it did. -/
def injuryJointUptoRow : OpenClaim := { program := "ytbplbhcgcicgfaagreatdoor", sum := "05ef6d0dbfdf034b1b23f28119c75e6b7f6d7ebf2b2f20bf470a0963e94c1f05", func := "crumple/crumplelaw06.InjuryJoint", spec := "injuryJoint", inPlace := ["internal/abi.NoEscape", "internal/bytealg.MakeNoZero"], unfollowed := true, recurses := true, named := ["crumple/injury.sides", "internal/strconv.uint64pow10", "math/bits.deBruijn32tab", "math/bits.deBruijn64tab"], apart := false, laid := [("math/bits.deBruijn32tab", laid_math_bits_deBruijn32tab), ("math/bits.deBruijn64tab", laid_math_bits_deBruijn64tab), ("internal/strconv.uint64pow10", laid_internal_strconv_uint64pow10), ("crumple/injury.sides", laid_crumple_injury_sides)], narrowed := true }
def InjuryJointUptoSaid : Prop := injuryJointUptoRow.holds Tryz.pinned (OpenSpec.upto injuryJointSpec)

/-- 'crumplelaw06.InjuryMargins', WHERE WHAT IT READS IS OF BULK AT MOST 1048576: true; the input reads as it did. -/
def injuryMarginsUptoRow : OpenClaim := { program := "ytbplbhcgcicgfaagreatdoor", sum := "05ef6d0dbfdf034b1b23f28119c75e6b7f6d7ebf2b2f20bf470a0963e94c1f05", func := "crumple/crumplelaw06.InjuryMargins", spec := "injuryMargins", inPlace := ["internal/abi.NoEscape", "internal/bytealg.MakeNoZero"], unfollowed := true, recurses := true, named := ["crumple/injury.sides", "internal/strconv.uint64pow10", "math/bits.deBruijn32tab", "math/bits.deBruijn64tab"], apart := false, laid := [("math/bits.deBruijn32tab", laid_math_bits_deBruijn32tab), ("math/bits.deBruijn64tab", laid_math_bits_deBruijn64tab), ("internal/strconv.uint64pow10", laid_internal_strconv_uint64pow10), ("crumple/injury.sides", laid_crumple_injury_sides)], narrowed := true }
def InjuryMarginsUptoSaid : Prop := injuryMarginsUptoRow.holds Tryz.pinned (OpenSpec.upto injuryMarginsSpec)

/-- 'crumplelaw06.InjuryRanks', WHERE WHAT IT READS IS OF BULK AT MOST 1048576: true; the input reads as it did. -/
def injuryRanksUptoRow : OpenClaim := { program := "ytbplbhcgcicgfaagreatdoor", sum := "05ef6d0dbfdf034b1b23f28119c75e6b7f6d7ebf2b2f20bf470a0963e94c1f05", func := "crumple/crumplelaw06.InjuryRanks", spec := "injuryRanks", inPlace := ["internal/abi.NoEscape", "internal/bytealg.MakeNoZero"], unfollowed := true, recurses := true, named := ["crumple/injury.sides", "internal/strconv.uint64pow10", "math/bits.deBruijn32tab", "math/bits.deBruijn64tab"], apart := false, laid := [("math/bits.deBruijn32tab", laid_math_bits_deBruijn32tab), ("math/bits.deBruijn64tab", laid_math_bits_deBruijn64tab), ("internal/strconv.uint64pow10", laid_internal_strconv_uint64pow10), ("crumple/injury.sides", laid_crumple_injury_sides)], narrowed := true }
def InjuryRanksUptoSaid : Prop := injuryRanksUptoRow.holds Tryz.pinned (OpenSpec.upto injuryRanksSpec)

/-- 'crumplelaw06.InjuryBest', WHERE WHAT IT READS IS OF BULK AT MOST 1048576: true; the input reads as it did. -/
def injuryBestUptoRow : OpenClaim := { program := "ytbplbhcgcicgfaagreatdoor", sum := "05ef6d0dbfdf034b1b23f28119c75e6b7f6d7ebf2b2f20bf470a0963e94c1f05", func := "crumple/crumplelaw06.InjuryBest", spec := "injuryBest", inPlace := ["internal/abi.NoEscape", "internal/bytealg.MakeNoZero"], unfollowed := true, recurses := true, named := ["crumple/injury.sides", "internal/strconv.uint64pow10", "math/bits.deBruijn32tab", "math/bits.deBruijn64tab"], apart := false, laid := [("math/bits.deBruijn32tab", laid_math_bits_deBruijn32tab), ("math/bits.deBruijn64tab", laid_math_bits_deBruijn64tab), ("internal/strconv.uint64pow10", laid_internal_strconv_uint64pow10), ("crumple/injury.sides", laid_crumple_injury_sides)], narrowed := true }
def InjuryBestUptoSaid : Prop := injuryBestUptoRow.holds Tryz.pinned (OpenSpec.upto injuryBestSpec)

/-- 'crumplelaw06.InjuryWithin', WHERE WHAT IT READS IS OF BULK AT MOST 1048576: true; the input reads as it did. -/
def injuryWithinUptoRow : OpenClaim := { program := "ytbplbhcgcicgfaagreatdoor", sum := "05ef6d0dbfdf034b1b23f28119c75e6b7f6d7ebf2b2f20bf470a0963e94c1f05", func := "crumple/crumplelaw06.InjuryWithin", spec := "injuryWithin", inPlace := ["internal/abi.NoEscape", "internal/bytealg.MakeNoZero"], unfollowed := true, recurses := true, named := ["crumple/injury.sides", "internal/strconv.uint64pow10", "math/bits.deBruijn32tab", "math/bits.deBruijn64tab"], apart := false, laid := [("math/bits.deBruijn32tab", laid_math_bits_deBruijn32tab), ("math/bits.deBruijn64tab", laid_math_bits_deBruijn64tab), ("internal/strconv.uint64pow10", laid_internal_strconv_uint64pow10), ("crumple/injury.sides", laid_crumple_injury_sides)], narrowed := true }
def InjuryWithinUptoSaid : Prop := injuryWithinUptoRow.holds Tryz.pinned (OpenSpec.upto injuryWithinSpec)

/-- 'crumplelaw06.InjuryHolds', WHERE WHAT IT READS IS OF BULK AT MOST 1048576: true; the input reads as it did. -/
def injuryHoldsUptoRow : OpenClaim := { program := "ytbplbhcgcicgfaagreatdoor", sum := "05ef6d0dbfdf034b1b23f28119c75e6b7f6d7ebf2b2f20bf470a0963e94c1f05", func := "crumple/crumplelaw06.InjuryHolds", spec := "injuryHolds", inPlace := ["internal/abi.NoEscape", "internal/bytealg.MakeNoZero"], unfollowed := true, recurses := true, named := ["crumple/injury.sides", "internal/strconv.uint64pow10", "math/bits.deBruijn32tab", "math/bits.deBruijn64tab"], apart := false, laid := [("math/bits.deBruijn32tab", laid_math_bits_deBruijn32tab), ("math/bits.deBruijn64tab", laid_math_bits_deBruijn64tab), ("internal/strconv.uint64pow10", laid_internal_strconv_uint64pow10), ("crumple/injury.sides", laid_crumple_injury_sides)], narrowed := true }
def InjuryHoldsUptoSaid : Prop := injuryHoldsUptoRow.holds Tryz.pinned (OpenSpec.upto injuryHoldsSpec)

/-- 'crumplelaw06.InjuryStrings', WHERE WHAT IT READS IS OF BULK AT MOST 1048576: true; the input reads as it did. -/
def injuryStringsUptoRow : OpenClaim := { program := "ytbplbhcgcicgfaagreatdoor", sum := "05ef6d0dbfdf034b1b23f28119c75e6b7f6d7ebf2b2f20bf470a0963e94c1f05", func := "crumple/crumplelaw06.InjuryStrings", spec := "injuryStrings", inPlace := ["internal/abi.NoEscape", "internal/bytealg.MakeNoZero", "internal/bytealg.IndexByteString", "internal/bytealg.CountString", "internal/bytealg.IndexString"], unfollowed := true, recurses := true, named := ["crumple/injury.sides", "internal/strconv.uint64pow10", "math/bits.deBruijn32tab", "math/bits.deBruijn64tab", "unicode/utf8.first", "unicode/utf8.acceptRanges", "internal/bytealg.MaxLen"], apart := false, laid := [("math/bits.deBruijn32tab", laid_math_bits_deBruijn32tab), ("math/bits.deBruijn64tab", laid_math_bits_deBruijn64tab), ("internal/strconv.uint64pow10", laid_internal_strconv_uint64pow10), ("unicode/utf8.acceptRanges", laid_unicode_utf8_acceptRanges), ("crumple/injury.sides", laid_crumple_injury_sides), ("unicode/utf8.first", laid_unicode_utf8_first)], narrowed := true }
def InjuryStringsUptoSaid : Prop := injuryStringsUptoRow.holds Tryz.pinned (OpenSpec.upto injuryStringsSpec)

/-- 'crumplelaw06.InjuryBack', WHERE WHAT IT READS IS OF BULK AT MOST 1048576: true; the input reads as it did. -/
def injuryBackUptoRow : OpenClaim := { program := "ytbplbhcgcicgfaagreatdoor", sum := "05ef6d0dbfdf034b1b23f28119c75e6b7f6d7ebf2b2f20bf470a0963e94c1f05", func := "crumple/crumplelaw06.InjuryBack", spec := "injuryBack", inPlace := ["internal/abi.NoEscape", "internal/bytealg.MakeNoZero", "internal/bytealg.IndexByteString", "internal/bytealg.CountString", "internal/bytealg.IndexString"], unfollowed := true, recurses := true, named := ["crumple/injury.sides", "internal/strconv.uint64pow10", "math/bits.deBruijn32tab", "math/bits.deBruijn64tab", "unicode/utf8.first", "unicode/utf8.acceptRanges", "internal/bytealg.MaxLen"], apart := false, laid := [("math/bits.deBruijn32tab", laid_math_bits_deBruijn32tab), ("math/bits.deBruijn64tab", laid_math_bits_deBruijn64tab), ("internal/strconv.uint64pow10", laid_internal_strconv_uint64pow10), ("unicode/utf8.acceptRanges", laid_unicode_utf8_acceptRanges), ("crumple/injury.sides", laid_crumple_injury_sides), ("unicode/utf8.first", laid_unicode_utf8_first)], narrowed := true }
def InjuryBackUptoSaid : Prop := injuryBackUptoRow.holds Tryz.pinned (OpenSpec.upto injuryBackSpec)

end Rows
end Go.Proofs.YtbplbhcgcicgfaaGreatDoor
