/-
  NARROWER THAN 'FOR EVERY INPUT', by the rows' own cells (each row's printed sentence says how): DummyTrees: laid · DummyMoments: laid · DummyLabs: laid · DummyTests: laid · DummyDays: laid · DummySeats: laid · DummyWithdraws: laid · DummyVouches: laid · DummyStrings: laid · DummyBranches: laid.
  DERIVED. THE GIVEN ROWS OF THIS SEAT. 10 by the template 'for every input the law returns true; each argument reads behind the call as it read before'; 0 by the template 'total and deterministic' (their statements: YtliikgffjphhjaaGreatDoorTotals.lean).
  GIVEN WITH THE SEED: the statements are not yours to turn. If you find one false, say at which input.
  Laid BY PROGRAM, IN A SANDBOX (cutbox-rows.mjs): the forced cells as the released guide's own fill.sh prints them over the translation 97dba0a066a33958… (all of the seat's roots in one cut). By AI agents, Wed Nov 11 2026. No macro, syntax, notation, axiom, sorry.
-/
import Derived.Test.YtliikgffjphhjaaGreatDoorChecked
import GoSem.PinnedTables
import GoSem.Claim
import GoSem.ClaimJoined
import GoSem.ClaimMapViews
import Derived.JoinedTies
import Derived.KernelRfl
namespace Go.Proofs.YtliikgffjphhjaaGreatDoor
/- THE CELL 'sum', in the pinned program and in every row, IS THE sha256 OF THE DUMP (.gsa) THAT YtliikgffjphhjaaGreatDoorProg.lean LOADS. Nothing in Lean hashes anything: it is a label: what it is worth is what the hold of that sum in a sandbox is worth. -/
noncomputable def Tryz.pinned : Pinned := { name := "ytliikgffjphhjaagreatdoor", sum := "97dba0a066a339584dfefd8328894be56c0389db645b17891549e63fe4c00639", checked := Tryz.checked }
namespace Rows
def none {H : Type} : Left H := { results := [], args := [] }

/- WHAT THE LISTED PACKAGE-LEVEL VARIABLES READ AS WHEN THE CALL BEGINS. Each datum BY PROGRAM (the guide's laid-datum.mjs) off the statement by which the dump's own 'gosem.cut.vars' lays the variable. In a bare row this is a premise. The card (YtliikgffjphhjaaGreatDoorCards.lean) ties it to the program's text. -/
def laid_math_bits_deBruijn32tab {H : Type} : DataW H := .agg [.lit (.int .u8 0), .lit (.int .u8 1), .lit (.int .u8 28), .lit (.int .u8 2), .lit (.int .u8 29), .lit (.int .u8 14), .lit (.int .u8 24), .lit (.int .u8 3), .lit (.int .u8 30), .lit (.int .u8 22), .lit (.int .u8 20), .lit (.int .u8 15), .lit (.int .u8 25), .lit (.int .u8 17), .lit (.int .u8 4), .lit (.int .u8 8), .lit (.int .u8 31), .lit (.int .u8 27), .lit (.int .u8 13), .lit (.int .u8 23), .lit (.int .u8 21), .lit (.int .u8 19), .lit (.int .u8 16), .lit (.int .u8 7), .lit (.int .u8 26), .lit (.int .u8 12), .lit (.int .u8 18), .lit (.int .u8 6), .lit (.int .u8 11), .lit (.int .u8 5), .lit (.int .u8 10), .lit (.int .u8 9)]
def laid_math_bits_deBruijn64tab {H : Type} : DataW H := .agg [.lit (.int .u8 0), .lit (.int .u8 1), .lit (.int .u8 56), .lit (.int .u8 2), .lit (.int .u8 57), .lit (.int .u8 49), .lit (.int .u8 28), .lit (.int .u8 3), .lit (.int .u8 61), .lit (.int .u8 58), .lit (.int .u8 42), .lit (.int .u8 50), .lit (.int .u8 38), .lit (.int .u8 29), .lit (.int .u8 17), .lit (.int .u8 4), .lit (.int .u8 62), .lit (.int .u8 47), .lit (.int .u8 59), .lit (.int .u8 36), .lit (.int .u8 45), .lit (.int .u8 43), .lit (.int .u8 51), .lit (.int .u8 22), .lit (.int .u8 53), .lit (.int .u8 39), .lit (.int .u8 33), .lit (.int .u8 30), .lit (.int .u8 24), .lit (.int .u8 18), .lit (.int .u8 12), .lit (.int .u8 5), .lit (.int .u8 63), .lit (.int .u8 55), .lit (.int .u8 48), .lit (.int .u8 27), .lit (.int .u8 60), .lit (.int .u8 41), .lit (.int .u8 37), .lit (.int .u8 16), .lit (.int .u8 46), .lit (.int .u8 35), .lit (.int .u8 44), .lit (.int .u8 21), .lit (.int .u8 52), .lit (.int .u8 32), .lit (.int .u8 23), .lit (.int .u8 11), .lit (.int .u8 54), .lit (.int .u8 26), .lit (.int .u8 40), .lit (.int .u8 15), .lit (.int .u8 34), .lit (.int .u8 20), .lit (.int .u8 31), .lit (.int .u8 10), .lit (.int .u8 25), .lit (.int .u8 14), .lit (.int .u8 19), .lit (.int .u8 9), .lit (.int .u8 13), .lit (.int .u8 8), .lit (.int .u8 7), .lit (.int .u8 6)]
def laid_internal_strconv_uint64pow10 {H : Type} : DataW H := .agg [.lit (.int .u64 1), .lit (.int .u64 10), .lit (.int .u64 100), .lit (.int .u64 1000), .lit (.int .u64 10000), .lit (.int .u64 100000), .lit (.int .u64 1000000), .lit (.int .u64 10000000), .lit (.int .u64 100000000), .lit (.int .u64 1000000000), .lit (.int .u64 10000000000), .lit (.int .u64 100000000000), .lit (.int .u64 1000000000000), .lit (.int .u64 10000000000000), .lit (.int .u64 100000000000000), .lit (.int .u64 1000000000000000), .lit (.int .u64 10000000000000000), .lit (.int .u64 100000000000000000), .lit (.int .u64 1000000000000000000), .lit (.int .u64 10000000000000000000)]
def laid_crumple_dummy_faults {H : Type} : DataW H := .iface "func table" (.agg [.agg [.lit (.string [109, 105, 115, 115, 105, 110, 103]), .iface "func" (.lit (.string [99, 114, 117, 109, 112, 108, 101, 47, 100, 117, 109, 109, 121, 46, 102, 97, 117, 108, 116, 115, 36, 49]))], .agg [.lit (.string [117, 110, 99, 97, 108, 105, 98, 114, 97, 116, 101, 100]), .iface "func" (.lit (.string [99, 114, 117, 109, 112, 108, 101, 47, 100, 117, 109, 109, 121, 46, 102, 97, 117, 108, 116, 115, 36, 50]))], .agg [.lit (.string [102, 97, 105, 108, 101, 100]), .iface "func" (.lit (.string [99, 114, 117, 109, 112, 108, 101, 47, 100, 117, 109, 109, 121, 46, 102, 97, 117, 108, 116, 115, 36, 51]))], .agg [.lit (.string [111, 108, 100]), .iface "func" (.lit (.string [99, 114, 117, 109, 112, 108, 101, 47, 100, 117, 109, 109, 121, 46, 102, 97, 117, 108, 116, 115, 36, 52]))], .agg [.lit (.string [119, 111, 114, 110]), .iface "func" (.lit (.string [99, 114, 117, 109, 112, 108, 101, 47, 100, 117, 109, 109, 121, 46, 102, 97, 117, 108, 116, 115, 36, 53]))]])
def laid_unicode_utf8_acceptRanges {H : Type} : DataW H := .agg [.agg [.lit (.int .u8 128), .lit (.int .u8 191)], .agg [.lit (.int .u8 160), .lit (.int .u8 191)], .agg [.lit (.int .u8 128), .lit (.int .u8 159)], .agg [.lit (.int .u8 144), .lit (.int .u8 191)], .agg [.lit (.int .u8 128), .lit (.int .u8 143)], .agg [.lit (.int .u8 0), .lit (.int .u8 0)], .agg [.lit (.int .u8 0), .lit (.int .u8 0)], .agg [.lit (.int .u8 0), .lit (.int .u8 0)], .agg [.lit (.int .u8 0), .lit (.int .u8 0)], .agg [.lit (.int .u8 0), .lit (.int .u8 0)], .agg [.lit (.int .u8 0), .lit (.int .u8 0)], .agg [.lit (.int .u8 0), .lit (.int .u8 0)], .agg [.lit (.int .u8 0), .lit (.int .u8 0)], .agg [.lit (.int .u8 0), .lit (.int .u8 0)], .agg [.lit (.int .u8 0), .lit (.int .u8 0)], .agg [.lit (.int .u8 0), .lit (.int .u8 0)]]
/-- One of Go's own tables, pinned by name: the form's constant. -/
def laid_unicode_utf8_first : DataW Unit := Go.Pinned.utf8First

/-- 'crumplelaw03.DummyTrees': WHATEVER THE INPUT: true; the input reads as it did. -/
def dummyTreesSpec : ChangeSpec := { name := "dummyTrees", fn := fun _ => fun
  | [d1, d2] => { results := [.lit (.bool true)], args := [d1, d2] }
  | _ => none }
def dummyTreesRow : OpenClaim := { program := "ytliikgffjphhjaagreatdoor", sum := "97dba0a066a339584dfefd8328894be56c0389db645b17891549e63fe4c00639", func := "crumple/crumplelaw03.DummyTrees", spec := "dummyTrees", inPlace := ["internal/abi.NoEscape", "internal/bytealg.MakeNoZero"], unfollowed := true, recurses := true, named := ["crumple/dummy.faults", "internal/strconv.uint64pow10", "math/bits.deBruijn32tab", "math/bits.deBruijn64tab"], plainKeys := false, apart := false, laid := [("math/bits.deBruijn32tab", laid_math_bits_deBruijn32tab), ("math/bits.deBruijn64tab", laid_math_bits_deBruijn64tab), ("internal/strconv.uint64pow10", laid_internal_strconv_uint64pow10), ("crumple/dummy.faults", laid_crumple_dummy_faults)] }
def DummyTreesSaid : Prop := dummyTreesRow.holds Tryz.pinned (OpenSpec.ofChange dummyTreesSpec)

/-- ITS FALSE NEIGHBOUR: 'it returns false'. Refute it at one input. -/
def dummyTreesWrong : ChangeSpec := { name := "dummyTrees", fn := fun _ => fun
  | [d1, d2] => { results := [.lit (.bool false)], args := [d1, d2] }
  | _ => none }
def DummyTreesWrongFalsely : Prop := dummyTreesRow.holds Tryz.pinned (OpenSpec.ofChange dummyTreesWrong)

/-- 'crumplelaw03.DummyMoments': WHATEVER THE INPUT: true; the input reads as it did. -/
def dummyMomentsSpec : ChangeSpec := { name := "dummyMoments", fn := fun _ => fun
  | [d1, d2, d3] => { results := [.lit (.bool true)], args := [d1, d2, d3] }
  | _ => none }
def dummyMomentsRow : OpenClaim := { program := "ytliikgffjphhjaagreatdoor", sum := "97dba0a066a339584dfefd8328894be56c0389db645b17891549e63fe4c00639", func := "crumple/crumplelaw03.DummyMoments", spec := "dummyMoments", inPlace := ["internal/abi.NoEscape", "internal/bytealg.MakeNoZero"], unfollowed := true, recurses := true, named := ["crumple/dummy.faults", "internal/strconv.uint64pow10", "math/bits.deBruijn32tab", "math/bits.deBruijn64tab"], plainKeys := false, apart := false, laid := [("math/bits.deBruijn32tab", laid_math_bits_deBruijn32tab), ("math/bits.deBruijn64tab", laid_math_bits_deBruijn64tab), ("internal/strconv.uint64pow10", laid_internal_strconv_uint64pow10), ("crumple/dummy.faults", laid_crumple_dummy_faults)] }
def DummyMomentsSaid : Prop := dummyMomentsRow.holds Tryz.pinned (OpenSpec.ofChange dummyMomentsSpec)

/-- ITS FALSE NEIGHBOUR: 'it returns false'. Refute it at one input. -/
def dummyMomentsWrong : ChangeSpec := { name := "dummyMoments", fn := fun _ => fun
  | [d1, d2, d3] => { results := [.lit (.bool false)], args := [d1, d2, d3] }
  | _ => none }
def DummyMomentsWrongFalsely : Prop := dummyMomentsRow.holds Tryz.pinned (OpenSpec.ofChange dummyMomentsWrong)

/-- 'crumplelaw03.DummyLabs': WHATEVER THE INPUT: true; the input reads as it did. -/
def dummyLabsSpec : ChangeSpec := { name := "dummyLabs", fn := fun _ => fun
  | [d1, d2, d3] => { results := [.lit (.bool true)], args := [d1, d2, d3] }
  | _ => none }
def dummyLabsRow : OpenClaim := { program := "ytliikgffjphhjaagreatdoor", sum := "97dba0a066a339584dfefd8328894be56c0389db645b17891549e63fe4c00639", func := "crumple/crumplelaw03.DummyLabs", spec := "dummyLabs", inPlace := ["internal/abi.NoEscape", "internal/bytealg.MakeNoZero"], unfollowed := true, recurses := true, named := ["crumple/dummy.faults", "internal/strconv.uint64pow10", "math/bits.deBruijn32tab", "math/bits.deBruijn64tab"], plainKeys := false, apart := false, laid := [("math/bits.deBruijn32tab", laid_math_bits_deBruijn32tab), ("math/bits.deBruijn64tab", laid_math_bits_deBruijn64tab), ("internal/strconv.uint64pow10", laid_internal_strconv_uint64pow10), ("crumple/dummy.faults", laid_crumple_dummy_faults)] }
def DummyLabsSaid : Prop := dummyLabsRow.holds Tryz.pinned (OpenSpec.ofChange dummyLabsSpec)

/-- ITS FALSE NEIGHBOUR: 'it returns false'. Refute it at one input. -/
def dummyLabsWrong : ChangeSpec := { name := "dummyLabs", fn := fun _ => fun
  | [d1, d2, d3] => { results := [.lit (.bool false)], args := [d1, d2, d3] }
  | _ => none }
def DummyLabsWrongFalsely : Prop := dummyLabsRow.holds Tryz.pinned (OpenSpec.ofChange dummyLabsWrong)

/-- 'crumplelaw03.DummyTests': WHATEVER THE INPUT: true; the input reads as it did. -/
def dummyTestsSpec : ChangeSpec := { name := "dummyTests", fn := fun _ => fun
  | [d1, d2] => { results := [.lit (.bool true)], args := [d1, d2] }
  | _ => none }
def dummyTestsRow : OpenClaim := { program := "ytliikgffjphhjaagreatdoor", sum := "97dba0a066a339584dfefd8328894be56c0389db645b17891549e63fe4c00639", func := "crumple/crumplelaw03.DummyTests", spec := "dummyTests", inPlace := ["internal/abi.NoEscape", "internal/bytealg.MakeNoZero"], unfollowed := true, recurses := true, named := ["crumple/dummy.faults", "internal/strconv.uint64pow10", "math/bits.deBruijn32tab", "math/bits.deBruijn64tab"], plainKeys := false, apart := false, laid := [("math/bits.deBruijn32tab", laid_math_bits_deBruijn32tab), ("math/bits.deBruijn64tab", laid_math_bits_deBruijn64tab), ("internal/strconv.uint64pow10", laid_internal_strconv_uint64pow10), ("crumple/dummy.faults", laid_crumple_dummy_faults)] }
def DummyTestsSaid : Prop := dummyTestsRow.holds Tryz.pinned (OpenSpec.ofChange dummyTestsSpec)

/-- ITS FALSE NEIGHBOUR: 'it returns false'. Refute it at one input. -/
def dummyTestsWrong : ChangeSpec := { name := "dummyTests", fn := fun _ => fun
  | [d1, d2] => { results := [.lit (.bool false)], args := [d1, d2] }
  | _ => none }
def DummyTestsWrongFalsely : Prop := dummyTestsRow.holds Tryz.pinned (OpenSpec.ofChange dummyTestsWrong)

/-- 'crumplelaw03.DummyDays': WHATEVER THE INPUT: true; the input reads as it did. -/
def dummyDaysSpec : ChangeSpec := { name := "dummyDays", fn := fun _ => fun
  | [d1, d2] => { results := [.lit (.bool true)], args := [d1, d2] }
  | _ => none }
def dummyDaysRow : OpenClaim := { program := "ytliikgffjphhjaagreatdoor", sum := "97dba0a066a339584dfefd8328894be56c0389db645b17891549e63fe4c00639", func := "crumple/crumplelaw03.DummyDays", spec := "dummyDays", inPlace := ["internal/abi.NoEscape", "internal/bytealg.MakeNoZero"], unfollowed := true, recurses := true, named := ["crumple/dummy.faults", "internal/strconv.uint64pow10", "math/bits.deBruijn32tab", "math/bits.deBruijn64tab"], plainKeys := false, apart := false, laid := [("math/bits.deBruijn32tab", laid_math_bits_deBruijn32tab), ("math/bits.deBruijn64tab", laid_math_bits_deBruijn64tab), ("internal/strconv.uint64pow10", laid_internal_strconv_uint64pow10), ("crumple/dummy.faults", laid_crumple_dummy_faults)] }
def DummyDaysSaid : Prop := dummyDaysRow.holds Tryz.pinned (OpenSpec.ofChange dummyDaysSpec)

/-- ITS FALSE NEIGHBOUR: 'it returns false'. Refute it at one input. -/
def dummyDaysWrong : ChangeSpec := { name := "dummyDays", fn := fun _ => fun
  | [d1, d2] => { results := [.lit (.bool false)], args := [d1, d2] }
  | _ => none }
def DummyDaysWrongFalsely : Prop := dummyDaysRow.holds Tryz.pinned (OpenSpec.ofChange dummyDaysWrong)

/-- 'crumplelaw03.DummySeats': WHATEVER THE INPUT: true; the input reads as it did. -/
def dummySeatsSpec : ChangeSpec := { name := "dummySeats", fn := fun _ => fun
  | [d1, d2, d3] => { results := [.lit (.bool true)], args := [d1, d2, d3] }
  | _ => none }
def dummySeatsRow : OpenClaim := { program := "ytliikgffjphhjaagreatdoor", sum := "97dba0a066a339584dfefd8328894be56c0389db645b17891549e63fe4c00639", func := "crumple/crumplelaw03.DummySeats", spec := "dummySeats", inPlace := ["internal/abi.NoEscape", "internal/bytealg.MakeNoZero"], unfollowed := true, recurses := true, named := ["crumple/dummy.faults", "internal/strconv.uint64pow10", "math/bits.deBruijn32tab", "math/bits.deBruijn64tab"], plainKeys := false, apart := false, laid := [("math/bits.deBruijn32tab", laid_math_bits_deBruijn32tab), ("math/bits.deBruijn64tab", laid_math_bits_deBruijn64tab), ("internal/strconv.uint64pow10", laid_internal_strconv_uint64pow10), ("crumple/dummy.faults", laid_crumple_dummy_faults)] }
def DummySeatsSaid : Prop := dummySeatsRow.holds Tryz.pinned (OpenSpec.ofChange dummySeatsSpec)

/-- ITS FALSE NEIGHBOUR: 'it returns false'. Refute it at one input. -/
def dummySeatsWrong : ChangeSpec := { name := "dummySeats", fn := fun _ => fun
  | [d1, d2, d3] => { results := [.lit (.bool false)], args := [d1, d2, d3] }
  | _ => none }
def DummySeatsWrongFalsely : Prop := dummySeatsRow.holds Tryz.pinned (OpenSpec.ofChange dummySeatsWrong)

/-- 'crumplelaw03.DummyWithdraws': WHATEVER THE INPUT: true; the input reads as it did. -/
def dummyWithdrawsSpec : ChangeSpec := { name := "dummyWithdraws", fn := fun _ => fun
  | [d1, d2] => { results := [.lit (.bool true)], args := [d1, d2] }
  | _ => none }
def dummyWithdrawsRow : OpenClaim := { program := "ytliikgffjphhjaagreatdoor", sum := "97dba0a066a339584dfefd8328894be56c0389db645b17891549e63fe4c00639", func := "crumple/crumplelaw03.DummyWithdraws", spec := "dummyWithdraws", inPlace := ["internal/abi.NoEscape", "internal/bytealg.MakeNoZero"], unfollowed := true, recurses := true, named := ["crumple/dummy.faults", "internal/strconv.uint64pow10", "math/bits.deBruijn32tab", "math/bits.deBruijn64tab"], plainKeys := false, apart := false, laid := [("math/bits.deBruijn32tab", laid_math_bits_deBruijn32tab), ("math/bits.deBruijn64tab", laid_math_bits_deBruijn64tab), ("internal/strconv.uint64pow10", laid_internal_strconv_uint64pow10), ("crumple/dummy.faults", laid_crumple_dummy_faults)] }
def DummyWithdrawsSaid : Prop := dummyWithdrawsRow.holds Tryz.pinned (OpenSpec.ofChange dummyWithdrawsSpec)

/-- ITS FALSE NEIGHBOUR: 'it returns false'. Refute it at one input. -/
def dummyWithdrawsWrong : ChangeSpec := { name := "dummyWithdraws", fn := fun _ => fun
  | [d1, d2] => { results := [.lit (.bool false)], args := [d1, d2] }
  | _ => none }
def DummyWithdrawsWrongFalsely : Prop := dummyWithdrawsRow.holds Tryz.pinned (OpenSpec.ofChange dummyWithdrawsWrong)

/-- 'crumplelaw03.DummyVouches': WHATEVER THE INPUT: true; the input reads as it did. -/
def dummyVouchesSpec : ChangeSpec := { name := "dummyVouches", fn := fun _ => fun
  | [d1, d2] => { results := [.lit (.bool true)], args := [d1, d2] }
  | _ => none }
def dummyVouchesRow : OpenClaim := { program := "ytliikgffjphhjaagreatdoor", sum := "97dba0a066a339584dfefd8328894be56c0389db645b17891549e63fe4c00639", func := "crumple/crumplelaw03.DummyVouches", spec := "dummyVouches", inPlace := ["internal/abi.NoEscape", "internal/bytealg.MakeNoZero"], unfollowed := true, recurses := true, named := ["crumple/dummy.faults", "internal/strconv.uint64pow10", "math/bits.deBruijn32tab", "math/bits.deBruijn64tab"], plainKeys := false, apart := false, laid := [("math/bits.deBruijn32tab", laid_math_bits_deBruijn32tab), ("math/bits.deBruijn64tab", laid_math_bits_deBruijn64tab), ("internal/strconv.uint64pow10", laid_internal_strconv_uint64pow10), ("crumple/dummy.faults", laid_crumple_dummy_faults)] }
def DummyVouchesSaid : Prop := dummyVouchesRow.holds Tryz.pinned (OpenSpec.ofChange dummyVouchesSpec)

/-- ITS FALSE NEIGHBOUR: 'it returns false'. Refute it at one input. -/
def dummyVouchesWrong : ChangeSpec := { name := "dummyVouches", fn := fun _ => fun
  | [d1, d2] => { results := [.lit (.bool false)], args := [d1, d2] }
  | _ => none }
def DummyVouchesWrongFalsely : Prop := dummyVouchesRow.holds Tryz.pinned (OpenSpec.ofChange dummyVouchesWrong)

/-- 'crumplelaw03.DummyStrings': WHATEVER THE INPUT: true; the input reads as it did. -/
def dummyStringsSpec : ChangeSpec := { name := "dummyStrings", fn := fun _ => fun
  | [d1, d2] => { results := [.lit (.bool true)], args := [d1, d2] }
  | _ => none }
def dummyStringsRow : OpenClaim := { program := "ytliikgffjphhjaagreatdoor", sum := "97dba0a066a339584dfefd8328894be56c0389db645b17891549e63fe4c00639", func := "crumple/crumplelaw03.DummyStrings", spec := "dummyStrings", inPlace := ["internal/abi.NoEscape", "internal/bytealg.MakeNoZero", "internal/bytealg.IndexByteString", "internal/bytealg.CountString", "internal/bytealg.IndexString"], unfollowed := true, recurses := true, named := ["crumple/dummy.faults", "internal/strconv.uint64pow10", "math/bits.deBruijn32tab", "math/bits.deBruijn64tab", "unicode/utf8.first", "unicode/utf8.acceptRanges", "internal/bytealg.MaxLen"], plainKeys := false, apart := false, laid := [("math/bits.deBruijn32tab", laid_math_bits_deBruijn32tab), ("math/bits.deBruijn64tab", laid_math_bits_deBruijn64tab), ("internal/strconv.uint64pow10", laid_internal_strconv_uint64pow10), ("unicode/utf8.acceptRanges", laid_unicode_utf8_acceptRanges), ("crumple/dummy.faults", laid_crumple_dummy_faults), ("unicode/utf8.first", laid_unicode_utf8_first)] }
def DummyStringsSaid : Prop := dummyStringsRow.holds Tryz.pinned (OpenSpec.ofChange dummyStringsSpec)

/-- ITS FALSE NEIGHBOUR: 'it returns false'. Refute it at one input. -/
def dummyStringsWrong : ChangeSpec := { name := "dummyStrings", fn := fun _ => fun
  | [d1, d2] => { results := [.lit (.bool false)], args := [d1, d2] }
  | _ => none }
def DummyStringsWrongFalsely : Prop := dummyStringsRow.holds Tryz.pinned (OpenSpec.ofChange dummyStringsWrong)

/-- 'crumplelaw03.DummyBranches': WHATEVER THE INPUT: true; the input reads as it did. -/
def dummyBranchesSpec : ChangeSpec := { name := "dummyBranches", fn := fun _ => fun
  | [d] => { results := [.lit (.bool true)], args := [d] }
  | _ => none }
def dummyBranchesRow : OpenClaim := { program := "ytliikgffjphhjaagreatdoor", sum := "97dba0a066a339584dfefd8328894be56c0389db645b17891549e63fe4c00639", func := "crumple/crumplelaw03.DummyBranches", spec := "dummyBranches", inPlace := ["internal/abi.NoEscape", "internal/bytealg.MakeNoZero", "internal/bytealg.IndexByteString", "internal/bytealg.CountString", "internal/bytealg.IndexString"], unfollowed := true, recurses := true, named := ["crumple/dummy.faults", "internal/strconv.uint64pow10", "math/bits.deBruijn32tab", "math/bits.deBruijn64tab", "unicode/utf8.first", "unicode/utf8.acceptRanges", "internal/bytealg.MaxLen"], plainKeys := false, apart := false, laid := [("math/bits.deBruijn32tab", laid_math_bits_deBruijn32tab), ("math/bits.deBruijn64tab", laid_math_bits_deBruijn64tab), ("internal/strconv.uint64pow10", laid_internal_strconv_uint64pow10), ("unicode/utf8.acceptRanges", laid_unicode_utf8_acceptRanges), ("crumple/dummy.faults", laid_crumple_dummy_faults), ("unicode/utf8.first", laid_unicode_utf8_first)] }
def DummyBranchesSaid : Prop := dummyBranchesRow.holds Tryz.pinned (OpenSpec.ofChange dummyBranchesSpec)

/-- ITS FALSE NEIGHBOUR: 'it returns false'. Refute it at one input. -/
def dummyBranchesWrong : ChangeSpec := { name := "dummyBranches", fn := fun _ => fun
  | [d] => { results := [.lit (.bool false)], args := [d] }
  | _ => none }
def DummyBranchesWrongFalsely : Prop := dummyBranchesRow.holds Tryz.pinned (OpenSpec.ofChange dummyBranchesWrong)

/- THE SECOND FORM. 'bulk': how many values and letters a reading holds, each counted each time it is reached (what is shared counts as often as it is met; a slice's spare places count too). A statement '..UptoSaid' is the law's where the arguments, and the package variables that the reading takes, are together of bulk at most 1048576: NARROWER than '..Said'. Prove '..Said' where nothing that the law and all that it calls make is longer than what came in: it says more and counts as full. Else prove '..UptoSaid'. A law counts once. -/
mutual
def uptoBulk {H : Type} : DataW H → Nat
  | .lit (.string bytes) => bytes.length + 1
  | .lit _ => 1
  | .nil => 1
  | .ptr d => uptoBulk d + 1
  | .slice elems spare => uptoBulkAll elems + uptoBulkAll spare + 1
  | .agg parts => uptoBulkAll parts + 1
  | .iface _ d => uptoBulk d + 1
  | .map entries => uptoBulkEntries entries + 1
  | .held _ => 1
def uptoBulkAll {H : Type} : List (DataW H) → Nat
  | [] => 0
  | d :: r => uptoBulk d + uptoBulkAll r
def uptoBulkEntries {H : Type} : List (Lit × DataW H) → Nat
  | [] => 0
  | x :: r => uptoBulkEntry x + uptoBulkEntries r
def uptoBulkEntry {H : Type} : Lit × DataW H → Nat
  | (.string bytes, d) => bytes.length + uptoBulk d + 1
  | (_, d) => uptoBulk d + 1
 end
def uptoSmall : (H : Type) → List (DataW H) → Bool := fun _ ds => decide (uptoBulkAll ds ≤ 1048576)
def OpenSpec.upto (s : _root_.Go.ChangeSpec) : _root_.Go.OpenSpec := { _root_.Go.OpenSpec.ofChange s with cond := some uptoSmall }

/-- 'crumplelaw03.DummyTrees', WHERE WHAT IT READS IS OF BULK AT MOST 1048576: true; the input reads as it did. -/
def dummyTreesUptoRow : OpenClaim := { program := "ytliikgffjphhjaagreatdoor", sum := "97dba0a066a339584dfefd8328894be56c0389db645b17891549e63fe4c00639", func := "crumple/crumplelaw03.DummyTrees", spec := "dummyTrees", inPlace := ["internal/abi.NoEscape", "internal/bytealg.MakeNoZero"], unfollowed := true, recurses := true, named := ["crumple/dummy.faults", "internal/strconv.uint64pow10", "math/bits.deBruijn32tab", "math/bits.deBruijn64tab"], plainKeys := false, apart := false, laid := [("math/bits.deBruijn32tab", laid_math_bits_deBruijn32tab), ("math/bits.deBruijn64tab", laid_math_bits_deBruijn64tab), ("internal/strconv.uint64pow10", laid_internal_strconv_uint64pow10), ("crumple/dummy.faults", laid_crumple_dummy_faults)], narrowed := true }
def DummyTreesUptoSaid : Prop := dummyTreesUptoRow.holds Tryz.pinned (OpenSpec.upto dummyTreesSpec)

/-- 'crumplelaw03.DummyMoments', WHERE WHAT IT READS IS OF BULK AT MOST 1048576: true; the input reads as it did. -/
def dummyMomentsUptoRow : OpenClaim := { program := "ytliikgffjphhjaagreatdoor", sum := "97dba0a066a339584dfefd8328894be56c0389db645b17891549e63fe4c00639", func := "crumple/crumplelaw03.DummyMoments", spec := "dummyMoments", inPlace := ["internal/abi.NoEscape", "internal/bytealg.MakeNoZero"], unfollowed := true, recurses := true, named := ["crumple/dummy.faults", "internal/strconv.uint64pow10", "math/bits.deBruijn32tab", "math/bits.deBruijn64tab"], plainKeys := false, apart := false, laid := [("math/bits.deBruijn32tab", laid_math_bits_deBruijn32tab), ("math/bits.deBruijn64tab", laid_math_bits_deBruijn64tab), ("internal/strconv.uint64pow10", laid_internal_strconv_uint64pow10), ("crumple/dummy.faults", laid_crumple_dummy_faults)], narrowed := true }
def DummyMomentsUptoSaid : Prop := dummyMomentsUptoRow.holds Tryz.pinned (OpenSpec.upto dummyMomentsSpec)

/-- 'crumplelaw03.DummyLabs', WHERE WHAT IT READS IS OF BULK AT MOST 1048576: true; the input reads as it did. -/
def dummyLabsUptoRow : OpenClaim := { program := "ytliikgffjphhjaagreatdoor", sum := "97dba0a066a339584dfefd8328894be56c0389db645b17891549e63fe4c00639", func := "crumple/crumplelaw03.DummyLabs", spec := "dummyLabs", inPlace := ["internal/abi.NoEscape", "internal/bytealg.MakeNoZero"], unfollowed := true, recurses := true, named := ["crumple/dummy.faults", "internal/strconv.uint64pow10", "math/bits.deBruijn32tab", "math/bits.deBruijn64tab"], plainKeys := false, apart := false, laid := [("math/bits.deBruijn32tab", laid_math_bits_deBruijn32tab), ("math/bits.deBruijn64tab", laid_math_bits_deBruijn64tab), ("internal/strconv.uint64pow10", laid_internal_strconv_uint64pow10), ("crumple/dummy.faults", laid_crumple_dummy_faults)], narrowed := true }
def DummyLabsUptoSaid : Prop := dummyLabsUptoRow.holds Tryz.pinned (OpenSpec.upto dummyLabsSpec)

/-- 'crumplelaw03.DummyTests', WHERE WHAT IT READS IS OF BULK AT MOST 1048576: true; the input reads as it did. -/
def dummyTestsUptoRow : OpenClaim := { program := "ytliikgffjphhjaagreatdoor", sum := "97dba0a066a339584dfefd8328894be56c0389db645b17891549e63fe4c00639", func := "crumple/crumplelaw03.DummyTests", spec := "dummyTests", inPlace := ["internal/abi.NoEscape", "internal/bytealg.MakeNoZero"], unfollowed := true, recurses := true, named := ["crumple/dummy.faults", "internal/strconv.uint64pow10", "math/bits.deBruijn32tab", "math/bits.deBruijn64tab"], plainKeys := false, apart := false, laid := [("math/bits.deBruijn32tab", laid_math_bits_deBruijn32tab), ("math/bits.deBruijn64tab", laid_math_bits_deBruijn64tab), ("internal/strconv.uint64pow10", laid_internal_strconv_uint64pow10), ("crumple/dummy.faults", laid_crumple_dummy_faults)], narrowed := true }
def DummyTestsUptoSaid : Prop := dummyTestsUptoRow.holds Tryz.pinned (OpenSpec.upto dummyTestsSpec)

/-- 'crumplelaw03.DummyDays', WHERE WHAT IT READS IS OF BULK AT MOST 1048576: true; the input reads as it did. -/
def dummyDaysUptoRow : OpenClaim := { program := "ytliikgffjphhjaagreatdoor", sum := "97dba0a066a339584dfefd8328894be56c0389db645b17891549e63fe4c00639", func := "crumple/crumplelaw03.DummyDays", spec := "dummyDays", inPlace := ["internal/abi.NoEscape", "internal/bytealg.MakeNoZero"], unfollowed := true, recurses := true, named := ["crumple/dummy.faults", "internal/strconv.uint64pow10", "math/bits.deBruijn32tab", "math/bits.deBruijn64tab"], plainKeys := false, apart := false, laid := [("math/bits.deBruijn32tab", laid_math_bits_deBruijn32tab), ("math/bits.deBruijn64tab", laid_math_bits_deBruijn64tab), ("internal/strconv.uint64pow10", laid_internal_strconv_uint64pow10), ("crumple/dummy.faults", laid_crumple_dummy_faults)], narrowed := true }
def DummyDaysUptoSaid : Prop := dummyDaysUptoRow.holds Tryz.pinned (OpenSpec.upto dummyDaysSpec)

/-- 'crumplelaw03.DummySeats', WHERE WHAT IT READS IS OF BULK AT MOST 1048576: true; the input reads as it did. -/
def dummySeatsUptoRow : OpenClaim := { program := "ytliikgffjphhjaagreatdoor", sum := "97dba0a066a339584dfefd8328894be56c0389db645b17891549e63fe4c00639", func := "crumple/crumplelaw03.DummySeats", spec := "dummySeats", inPlace := ["internal/abi.NoEscape", "internal/bytealg.MakeNoZero"], unfollowed := true, recurses := true, named := ["crumple/dummy.faults", "internal/strconv.uint64pow10", "math/bits.deBruijn32tab", "math/bits.deBruijn64tab"], plainKeys := false, apart := false, laid := [("math/bits.deBruijn32tab", laid_math_bits_deBruijn32tab), ("math/bits.deBruijn64tab", laid_math_bits_deBruijn64tab), ("internal/strconv.uint64pow10", laid_internal_strconv_uint64pow10), ("crumple/dummy.faults", laid_crumple_dummy_faults)], narrowed := true }
def DummySeatsUptoSaid : Prop := dummySeatsUptoRow.holds Tryz.pinned (OpenSpec.upto dummySeatsSpec)

/-- 'crumplelaw03.DummyWithdraws', WHERE WHAT IT READS IS OF BULK AT MOST 1048576: true; the input reads as it did. -/
def dummyWithdrawsUptoRow : OpenClaim := { program := "ytliikgffjphhjaagreatdoor", sum := "97dba0a066a339584dfefd8328894be56c0389db645b17891549e63fe4c00639", func := "crumple/crumplelaw03.DummyWithdraws", spec := "dummyWithdraws", inPlace := ["internal/abi.NoEscape", "internal/bytealg.MakeNoZero"], unfollowed := true, recurses := true, named := ["crumple/dummy.faults", "internal/strconv.uint64pow10", "math/bits.deBruijn32tab", "math/bits.deBruijn64tab"], plainKeys := false, apart := false, laid := [("math/bits.deBruijn32tab", laid_math_bits_deBruijn32tab), ("math/bits.deBruijn64tab", laid_math_bits_deBruijn64tab), ("internal/strconv.uint64pow10", laid_internal_strconv_uint64pow10), ("crumple/dummy.faults", laid_crumple_dummy_faults)], narrowed := true }
def DummyWithdrawsUptoSaid : Prop := dummyWithdrawsUptoRow.holds Tryz.pinned (OpenSpec.upto dummyWithdrawsSpec)

/-- 'crumplelaw03.DummyVouches', WHERE WHAT IT READS IS OF BULK AT MOST 1048576: true; the input reads as it did. -/
def dummyVouchesUptoRow : OpenClaim := { program := "ytliikgffjphhjaagreatdoor", sum := "97dba0a066a339584dfefd8328894be56c0389db645b17891549e63fe4c00639", func := "crumple/crumplelaw03.DummyVouches", spec := "dummyVouches", inPlace := ["internal/abi.NoEscape", "internal/bytealg.MakeNoZero"], unfollowed := true, recurses := true, named := ["crumple/dummy.faults", "internal/strconv.uint64pow10", "math/bits.deBruijn32tab", "math/bits.deBruijn64tab"], plainKeys := false, apart := false, laid := [("math/bits.deBruijn32tab", laid_math_bits_deBruijn32tab), ("math/bits.deBruijn64tab", laid_math_bits_deBruijn64tab), ("internal/strconv.uint64pow10", laid_internal_strconv_uint64pow10), ("crumple/dummy.faults", laid_crumple_dummy_faults)], narrowed := true }
def DummyVouchesUptoSaid : Prop := dummyVouchesUptoRow.holds Tryz.pinned (OpenSpec.upto dummyVouchesSpec)

/-- 'crumplelaw03.DummyStrings', WHERE WHAT IT READS IS OF BULK AT MOST 1048576: true; the input reads as it did. -/
def dummyStringsUptoRow : OpenClaim := { program := "ytliikgffjphhjaagreatdoor", sum := "97dba0a066a339584dfefd8328894be56c0389db645b17891549e63fe4c00639", func := "crumple/crumplelaw03.DummyStrings", spec := "dummyStrings", inPlace := ["internal/abi.NoEscape", "internal/bytealg.MakeNoZero", "internal/bytealg.IndexByteString", "internal/bytealg.CountString", "internal/bytealg.IndexString"], unfollowed := true, recurses := true, named := ["crumple/dummy.faults", "internal/strconv.uint64pow10", "math/bits.deBruijn32tab", "math/bits.deBruijn64tab", "unicode/utf8.first", "unicode/utf8.acceptRanges", "internal/bytealg.MaxLen"], plainKeys := false, apart := false, laid := [("math/bits.deBruijn32tab", laid_math_bits_deBruijn32tab), ("math/bits.deBruijn64tab", laid_math_bits_deBruijn64tab), ("internal/strconv.uint64pow10", laid_internal_strconv_uint64pow10), ("unicode/utf8.acceptRanges", laid_unicode_utf8_acceptRanges), ("crumple/dummy.faults", laid_crumple_dummy_faults), ("unicode/utf8.first", laid_unicode_utf8_first)], narrowed := true }
def DummyStringsUptoSaid : Prop := dummyStringsUptoRow.holds Tryz.pinned (OpenSpec.upto dummyStringsSpec)

/-- 'crumplelaw03.DummyBranches', WHERE WHAT IT READS IS OF BULK AT MOST 1048576: true; the input reads as it did. -/
def dummyBranchesUptoRow : OpenClaim := { program := "ytliikgffjphhjaagreatdoor", sum := "97dba0a066a339584dfefd8328894be56c0389db645b17891549e63fe4c00639", func := "crumple/crumplelaw03.DummyBranches", spec := "dummyBranches", inPlace := ["internal/abi.NoEscape", "internal/bytealg.MakeNoZero", "internal/bytealg.IndexByteString", "internal/bytealg.CountString", "internal/bytealg.IndexString"], unfollowed := true, recurses := true, named := ["crumple/dummy.faults", "internal/strconv.uint64pow10", "math/bits.deBruijn32tab", "math/bits.deBruijn64tab", "unicode/utf8.first", "unicode/utf8.acceptRanges", "internal/bytealg.MaxLen"], plainKeys := false, apart := false, laid := [("math/bits.deBruijn32tab", laid_math_bits_deBruijn32tab), ("math/bits.deBruijn64tab", laid_math_bits_deBruijn64tab), ("internal/strconv.uint64pow10", laid_internal_strconv_uint64pow10), ("unicode/utf8.acceptRanges", laid_unicode_utf8_acceptRanges), ("crumple/dummy.faults", laid_crumple_dummy_faults), ("unicode/utf8.first", laid_unicode_utf8_first)], narrowed := true }
def DummyBranchesUptoSaid : Prop := dummyBranchesUptoRow.holds Tryz.pinned (OpenSpec.upto dummyBranchesSpec)

end Rows
end Go.Proofs.YtliikgffjphhjaaGreatDoor
