/-
  NARROWER THAN 'FOR EVERY INPUT', by the rows' own cells (each row's printed sentence says how): ControlPuts: laid · ControlTurns: laid · ControlLists: laid · ControlMoves: laid.
  DERIVED. THE GIVEN ROWS OF THIS SEAT. 4 by the template 'for every input the law returns true; each argument reads behind the call as it read before'; 0 by the template 'total and deterministic' (their statements: YtlinaeklhkfbcaaGreatDoorTotals.lean).
  GIVEN WITH THE SEED: the statements are not yours to turn. If you find one false, say at which input.
  Laid BY PROGRAM, IN A SANDBOX (cutbox-rows.mjs): the forced cells as the released guide's own fill.sh prints them over the translation 1a0b255291c0e3d1… (all of the seat's roots in one cut). By AI agents, Wed Nov 11 2026. No macro, syntax, notation, axiom, sorry.
-/
import Derived.Test.YtlinaeklhkfbcaaGreatDoorChecked
import GoSem.PinnedTables
import GoSem.Claim
import GoSem.ClaimJoined
import GoSem.ClaimMapViews
import Derived.JoinedTies
import Derived.KernelRfl
namespace Go.Proofs.YtlinaeklhkfbcaaGreatDoor
/- THE CELL 'sum', in the pinned program and in every row, IS THE sha256 OF THE DUMP (.gsa) THAT YtlinaeklhkfbcaaGreatDoorProg.lean LOADS. Nothing in Lean hashes anything: it is a label: what it is worth is what the hold of that sum in a sandbox is worth. -/
noncomputable def Tryz.pinned : Pinned := { name := "ytlinaeklhkfbcaagreatdoor", sum := "1a0b255291c0e3d11b67a72bf0c20fc0b174fa762c3759306fdf37c512dc5d17", checked := Tryz.checked }
namespace Rows
def none {H : Type} : Left H := { results := [], args := [] }

/- WHAT THE LISTED PACKAGE-LEVEL VARIABLES READ AS WHEN THE CALL BEGINS. Each datum BY PROGRAM (the guide's laid-datum.mjs) off the statement by which the dump's own 'gosem.cut.vars' lays the variable. In a bare row this is a premise. The card (YtlinaeklhkfbcaaGreatDoorCards.lean) ties it to the program's text. -/
def laid_math_bits_deBruijn32tab {H : Type} : DataW H := .agg [.lit (.int .u8 0), .lit (.int .u8 1), .lit (.int .u8 28), .lit (.int .u8 2), .lit (.int .u8 29), .lit (.int .u8 14), .lit (.int .u8 24), .lit (.int .u8 3), .lit (.int .u8 30), .lit (.int .u8 22), .lit (.int .u8 20), .lit (.int .u8 15), .lit (.int .u8 25), .lit (.int .u8 17), .lit (.int .u8 4), .lit (.int .u8 8), .lit (.int .u8 31), .lit (.int .u8 27), .lit (.int .u8 13), .lit (.int .u8 23), .lit (.int .u8 21), .lit (.int .u8 19), .lit (.int .u8 16), .lit (.int .u8 7), .lit (.int .u8 26), .lit (.int .u8 12), .lit (.int .u8 18), .lit (.int .u8 6), .lit (.int .u8 11), .lit (.int .u8 5), .lit (.int .u8 10), .lit (.int .u8 9)]
def laid_math_bits_deBruijn64tab {H : Type} : DataW H := .agg [.lit (.int .u8 0), .lit (.int .u8 1), .lit (.int .u8 56), .lit (.int .u8 2), .lit (.int .u8 57), .lit (.int .u8 49), .lit (.int .u8 28), .lit (.int .u8 3), .lit (.int .u8 61), .lit (.int .u8 58), .lit (.int .u8 42), .lit (.int .u8 50), .lit (.int .u8 38), .lit (.int .u8 29), .lit (.int .u8 17), .lit (.int .u8 4), .lit (.int .u8 62), .lit (.int .u8 47), .lit (.int .u8 59), .lit (.int .u8 36), .lit (.int .u8 45), .lit (.int .u8 43), .lit (.int .u8 51), .lit (.int .u8 22), .lit (.int .u8 53), .lit (.int .u8 39), .lit (.int .u8 33), .lit (.int .u8 30), .lit (.int .u8 24), .lit (.int .u8 18), .lit (.int .u8 12), .lit (.int .u8 5), .lit (.int .u8 63), .lit (.int .u8 55), .lit (.int .u8 48), .lit (.int .u8 27), .lit (.int .u8 60), .lit (.int .u8 41), .lit (.int .u8 37), .lit (.int .u8 16), .lit (.int .u8 46), .lit (.int .u8 35), .lit (.int .u8 44), .lit (.int .u8 21), .lit (.int .u8 52), .lit (.int .u8 32), .lit (.int .u8 23), .lit (.int .u8 11), .lit (.int .u8 54), .lit (.int .u8 26), .lit (.int .u8 40), .lit (.int .u8 15), .lit (.int .u8 34), .lit (.int .u8 20), .lit (.int .u8 31), .lit (.int .u8 10), .lit (.int .u8 25), .lit (.int .u8 14), .lit (.int .u8 19), .lit (.int .u8 9), .lit (.int .u8 13), .lit (.int .u8 8), .lit (.int .u8 7), .lit (.int .u8 6)]
def laid_internal_strconv_uint64pow10 {H : Type} : DataW H := .agg [.lit (.int .u64 1), .lit (.int .u64 10), .lit (.int .u64 100), .lit (.int .u64 1000), .lit (.int .u64 10000), .lit (.int .u64 100000), .lit (.int .u64 1000000), .lit (.int .u64 10000000), .lit (.int .u64 100000000), .lit (.int .u64 1000000000), .lit (.int .u64 10000000000), .lit (.int .u64 100000000000), .lit (.int .u64 1000000000000), .lit (.int .u64 10000000000000), .lit (.int .u64 100000000000000), .lit (.int .u64 1000000000000000), .lit (.int .u64 10000000000000000), .lit (.int .u64 100000000000000000), .lit (.int .u64 1000000000000000000), .lit (.int .u64 10000000000000000000)]
def laid_unicode_utf8_acceptRanges {H : Type} : DataW H := .agg [.agg [.lit (.int .u8 128), .lit (.int .u8 191)], .agg [.lit (.int .u8 160), .lit (.int .u8 191)], .agg [.lit (.int .u8 128), .lit (.int .u8 159)], .agg [.lit (.int .u8 144), .lit (.int .u8 191)], .agg [.lit (.int .u8 128), .lit (.int .u8 143)], .agg [.lit (.int .u8 0), .lit (.int .u8 0)], .agg [.lit (.int .u8 0), .lit (.int .u8 0)], .agg [.lit (.int .u8 0), .lit (.int .u8 0)], .agg [.lit (.int .u8 0), .lit (.int .u8 0)], .agg [.lit (.int .u8 0), .lit (.int .u8 0)], .agg [.lit (.int .u8 0), .lit (.int .u8 0)], .agg [.lit (.int .u8 0), .lit (.int .u8 0)], .agg [.lit (.int .u8 0), .lit (.int .u8 0)], .agg [.lit (.int .u8 0), .lit (.int .u8 0)], .agg [.lit (.int .u8 0), .lit (.int .u8 0)], .agg [.lit (.int .u8 0), .lit (.int .u8 0)]]
def laid_library_rules_standard {H : Type} : DataW H := .agg [.agg [.lit (.string [48, 50, 48]), .lit (.bool true), .lit (.bool false), .lit (.string [97, 122]), .lit (.string []), .lit (.string []), .lit (.int .i64 0)], .agg [.lit (.string [48, 50, 50]), .lit (.bool true), .lit (.bool false), .lit (.string [97]), .lit (.string []), .lit (.string []), .lit (.int .i64 0)], .agg [.lit (.string [48, 52, 49]), .lit (.bool true), .lit (.bool false), .lit (.string [97]), .lit (.string []), .lit (.string []), .lit (.int .i64 0)], .agg [.lit (.string [49, 48, 48]), .lit (.bool false), .lit (.bool false), .lit (.string [52, 97, 100]), .lit (.string [97]), .lit (.string [97]), .lit (.int .i64 1)], .agg [.lit (.string [49, 49, 48]), .lit (.bool false), .lit (.bool false), .lit (.string [97, 98]), .lit (.string [97]), .lit (.string [97]), .lit (.int .i64 2)], .agg [.lit (.string [50, 52, 53]), .lit (.bool false), .lit (.bool true), .lit (.string [97, 98, 99, 110, 112]), .lit (.string [97, 99]), .lit (.string [97]), .lit (.int .i64 0)], .agg [.lit (.string [50, 52, 54]), .lit (.bool true), .lit (.bool false), .lit (.string [97, 98]), .lit (.string [97]), .lit (.string [97]), .lit (.int .i64 0)], .agg [.lit (.string [50, 53, 48]), .lit (.bool false), .lit (.bool false), .lit (.string [97, 98]), .lit (.string []), .lit (.string []), .lit (.int .i64 0)], .agg [.lit (.string [50, 54, 48]), .lit (.bool true), .lit (.bool false), .lit (.string [97, 98, 99]), .lit (.string []), .lit (.string []), .lit (.int .i64 0)], .agg [.lit (.string [50, 54, 52]), .lit (.bool true), .lit (.bool false), .lit (.string [97, 98, 99]), .lit (.string []), .lit (.string []), .lit (.int .i64 0)], .agg [.lit (.string [51, 48, 48]), .lit (.bool true), .lit (.bool false), .lit (.string [97, 98, 99]), .lit (.string []), .lit (.string []), .lit (.int .i64 0)], .agg [.lit (.string [52, 52, 48]), .lit (.bool true), .lit (.bool false), .lit (.string [97, 118]), .lit (.string [97]), .lit (.string [97]), .lit (.int .i64 4)], .agg [.lit (.string [52, 57, 48]), .lit (.bool true), .lit (.bool false), .lit (.string [97, 118]), .lit (.string [97]), .lit (.string [97]), .lit (.int .i64 0)], .agg [.lit (.string [53, 48, 48]), .lit (.bool true), .lit (.bool false), .lit (.string [97]), .lit (.string [97]), .lit (.string [97]), .lit (.int .i64 0)], .agg [.lit (.string [53, 50, 48]), .lit (.bool true), .lit (.bool false), .lit (.string [97]), .lit (.string []), .lit (.string []), .lit (.int .i64 0)], .agg [.lit (.string [54, 48, 48]), .lit (.bool true), .lit (.bool false), .lit (.string [97, 100, 120, 121, 122]), .lit (.string [97]), .lit (.string [97]), .lit (.int .i64 1)], .agg [.lit (.string [54, 49, 48]), .lit (.bool true), .lit (.bool false), .lit (.string [97, 98, 120, 121, 122]), .lit (.string [97]), .lit (.string [97]), .lit (.int .i64 2)], .agg [.lit (.string [54, 53, 48]), .lit (.bool true), .lit (.bool false), .lit (.string [97, 120, 121, 122]), .lit (.string [97]), .lit (.string [97]), .lit (.int .i64 3)], .agg [.lit (.string [54, 53, 49]), .lit (.bool true), .lit (.bool false), .lit (.string [97, 120, 121, 122]), .lit (.string [97]), .lit (.string [97]), .lit (.int .i64 3)], .agg [.lit (.string [55, 48, 48]), .lit (.bool true), .lit (.bool false), .lit (.string [52, 97, 100]), .lit (.string [97]), .lit (.string [97]), .lit (.int .i64 1)], .agg [.lit (.string [55, 49, 48]), .lit (.bool true), .lit (.bool false), .lit (.string [97, 98]), .lit (.string [97]), .lit (.string [97]), .lit (.int .i64 2)], .agg [.lit (.string [55, 55, 54]), .lit (.bool true), .lit (.bool false), .lit (.string [116, 119]), .lit (.string []), .lit (.string []), .lit (.int .i64 0)], .agg [.lit (.string [55, 56, 55]), .lit (.bool true), .lit (.bool false), .lit (.string [116, 119]), .lit (.string []), .lit (.string []), .lit (.int .i64 0)], .agg [.lit (.string [56, 51, 48]), .lit (.bool true), .lit (.bool false), .lit (.string [97, 118]), .lit (.string [97]), .lit (.string [97]), .lit (.int .i64 4)], .agg [.lit (.string [56, 53, 54]), .lit (.bool true), .lit (.bool false), .lit (.string [117, 122]), .lit (.string []), .lit (.string []), .lit (.int .i64 0)]]
/-- One of Go's own tables, pinned by name: the form's constant. -/
def laid_unicode_utf8_first : DataW Unit := Go.Pinned.utf8First

/-- 'librarylaw14.ControlPuts': WHATEVER THE INPUT: true; the input reads as it did. -/
def controlPutsSpec : ChangeSpec := { name := "controlPuts", fn := fun _ => fun
  | [d1, d2] => { results := [.lit (.bool true)], args := [d1, d2] }
  | _ => none }
def controlPutsRow : OpenClaim := { program := "ytlinaeklhkfbcaagreatdoor", sum := "1a0b255291c0e3d11b67a72bf0c20fc0b174fa762c3759306fdf37c512dc5d17", func := "library/librarylaw14.ControlPuts", spec := "controlPuts", inPlace := ["internal/bytealg.IndexByteString", "internal/abi.NoEscape", "internal/bytealg.MakeNoZero", "internal/bytealg.CountString", "internal/bytealg.IndexString"], unfollowed := true, recurses := true, named := ["library/rules.standard", "unicode/utf8.first", "unicode/utf8.acceptRanges", "internal/bytealg.MaxLen", "internal/strconv.uint64pow10", "math/bits.deBruijn32tab", "math/bits.deBruijn64tab"], plainKeys := false, apart := false, laid := [("math/bits.deBruijn32tab", laid_math_bits_deBruijn32tab), ("math/bits.deBruijn64tab", laid_math_bits_deBruijn64tab), ("internal/strconv.uint64pow10", laid_internal_strconv_uint64pow10), ("unicode/utf8.acceptRanges", laid_unicode_utf8_acceptRanges), ("library/rules.standard", laid_library_rules_standard), ("unicode/utf8.first", laid_unicode_utf8_first)] }
def ControlPutsSaid : Prop := controlPutsRow.holds Tryz.pinned (OpenSpec.ofChange controlPutsSpec)

/-- ITS FALSE NEIGHBOUR: 'it returns false'. Refute it at one input. -/
def controlPutsWrong : ChangeSpec := { name := "controlPuts", fn := fun _ => fun
  | [d1, d2] => { results := [.lit (.bool false)], args := [d1, d2] }
  | _ => none }
def ControlPutsWrongFalsely : Prop := controlPutsRow.holds Tryz.pinned (OpenSpec.ofChange controlPutsWrong)

/-- 'librarylaw14.ControlTurns': WHATEVER THE INPUT: true; the input reads as it did. -/
def controlTurnsSpec : ChangeSpec := { name := "controlTurns", fn := fun _ => fun
  | [d1, d2, d3] => { results := [.lit (.bool true)], args := [d1, d2, d3] }
  | _ => none }
def controlTurnsRow : OpenClaim := { program := "ytlinaeklhkfbcaagreatdoor", sum := "1a0b255291c0e3d11b67a72bf0c20fc0b174fa762c3759306fdf37c512dc5d17", func := "library/librarylaw14.ControlTurns", spec := "controlTurns", inPlace := ["internal/bytealg.IndexByteString", "internal/abi.NoEscape", "internal/bytealg.MakeNoZero", "internal/bytealg.CountString", "internal/bytealg.IndexString"], unfollowed := true, recurses := true, named := ["library/rules.standard", "unicode/utf8.first", "unicode/utf8.acceptRanges", "internal/bytealg.MaxLen", "internal/strconv.uint64pow10", "math/bits.deBruijn32tab", "math/bits.deBruijn64tab"], plainKeys := false, apart := false, laid := [("math/bits.deBruijn32tab", laid_math_bits_deBruijn32tab), ("math/bits.deBruijn64tab", laid_math_bits_deBruijn64tab), ("internal/strconv.uint64pow10", laid_internal_strconv_uint64pow10), ("unicode/utf8.acceptRanges", laid_unicode_utf8_acceptRanges), ("library/rules.standard", laid_library_rules_standard), ("unicode/utf8.first", laid_unicode_utf8_first)] }
def ControlTurnsSaid : Prop := controlTurnsRow.holds Tryz.pinned (OpenSpec.ofChange controlTurnsSpec)

/-- ITS FALSE NEIGHBOUR: 'it returns false'. Refute it at one input. -/
def controlTurnsWrong : ChangeSpec := { name := "controlTurns", fn := fun _ => fun
  | [d1, d2, d3] => { results := [.lit (.bool false)], args := [d1, d2, d3] }
  | _ => none }
def ControlTurnsWrongFalsely : Prop := controlTurnsRow.holds Tryz.pinned (OpenSpec.ofChange controlTurnsWrong)

/-- 'librarylaw14.ControlLists': WHATEVER THE INPUT: true; the input reads as it did. -/
def controlListsSpec : ChangeSpec := { name := "controlLists", fn := fun _ => fun
  | [d1, d2, d3] => { results := [.lit (.bool true)], args := [d1, d2, d3] }
  | _ => none }
def controlListsRow : OpenClaim := { program := "ytlinaeklhkfbcaagreatdoor", sum := "1a0b255291c0e3d11b67a72bf0c20fc0b174fa762c3759306fdf37c512dc5d17", func := "library/librarylaw14.ControlLists", spec := "controlLists", inPlace := ["internal/bytealg.IndexByteString", "internal/abi.NoEscape", "internal/bytealg.MakeNoZero", "internal/bytealg.CountString", "internal/bytealg.IndexString"], unfollowed := true, recurses := true, named := ["library/rules.standard", "unicode/utf8.first", "unicode/utf8.acceptRanges", "internal/bytealg.MaxLen", "internal/strconv.uint64pow10", "math/bits.deBruijn32tab", "math/bits.deBruijn64tab"], plainKeys := false, apart := false, laid := [("math/bits.deBruijn32tab", laid_math_bits_deBruijn32tab), ("math/bits.deBruijn64tab", laid_math_bits_deBruijn64tab), ("internal/strconv.uint64pow10", laid_internal_strconv_uint64pow10), ("unicode/utf8.acceptRanges", laid_unicode_utf8_acceptRanges), ("library/rules.standard", laid_library_rules_standard), ("unicode/utf8.first", laid_unicode_utf8_first)] }
def ControlListsSaid : Prop := controlListsRow.holds Tryz.pinned (OpenSpec.ofChange controlListsSpec)

/-- ITS FALSE NEIGHBOUR: 'it returns false'. Refute it at one input. -/
def controlListsWrong : ChangeSpec := { name := "controlLists", fn := fun _ => fun
  | [d1, d2, d3] => { results := [.lit (.bool false)], args := [d1, d2, d3] }
  | _ => none }
def ControlListsWrongFalsely : Prop := controlListsRow.holds Tryz.pinned (OpenSpec.ofChange controlListsWrong)

/-- 'librarylaw14.ControlMoves': WHATEVER THE INPUT: true; the input reads as it did. -/
def controlMovesSpec : ChangeSpec := { name := "controlMoves", fn := fun _ => fun
  | [d1, d2, d3] => { results := [.lit (.bool true)], args := [d1, d2, d3] }
  | _ => none }
def controlMovesRow : OpenClaim := { program := "ytlinaeklhkfbcaagreatdoor", sum := "1a0b255291c0e3d11b67a72bf0c20fc0b174fa762c3759306fdf37c512dc5d17", func := "library/librarylaw14.ControlMoves", spec := "controlMoves", inPlace := ["internal/bytealg.IndexByteString", "internal/abi.NoEscape", "internal/bytealg.MakeNoZero", "internal/bytealg.CountString", "internal/bytealg.IndexString"], unfollowed := true, recurses := true, named := ["library/rules.standard", "unicode/utf8.first", "unicode/utf8.acceptRanges", "internal/bytealg.MaxLen", "internal/strconv.uint64pow10", "math/bits.deBruijn32tab", "math/bits.deBruijn64tab"], plainKeys := false, apart := false, laid := [("math/bits.deBruijn32tab", laid_math_bits_deBruijn32tab), ("math/bits.deBruijn64tab", laid_math_bits_deBruijn64tab), ("internal/strconv.uint64pow10", laid_internal_strconv_uint64pow10), ("unicode/utf8.acceptRanges", laid_unicode_utf8_acceptRanges), ("library/rules.standard", laid_library_rules_standard), ("unicode/utf8.first", laid_unicode_utf8_first)] }
def ControlMovesSaid : Prop := controlMovesRow.holds Tryz.pinned (OpenSpec.ofChange controlMovesSpec)

/-- ITS FALSE NEIGHBOUR: 'it returns false'. Refute it at one input. -/
def controlMovesWrong : ChangeSpec := { name := "controlMoves", fn := fun _ => fun
  | [d1, d2, d3] => { results := [.lit (.bool false)], args := [d1, d2, d3] }
  | _ => none }
def ControlMovesWrongFalsely : Prop := controlMovesRow.holds Tryz.pinned (OpenSpec.ofChange controlMovesWrong)

/- THE SECOND FORM. 'bulk': how many values and letters a reading holds, each counted each time it is reached (what is shared counts as often as it is met; a slice's spare places count too). A statement '..UptoSaid' is the law's where the arguments, and the package variables that the reading takes, are together of bulk at most 1048576: NARROWER than '..Said'. Prove '..Said' where nothing that the law and all that it calls make is longer than what came in: it says more and counts as full. Else prove '..UptoSaid'. A law counts once. -/
mutual
def uptoBulk {H : Type} : DataW H → Nat
  | .lit (.string bytes) => bytes.length + 1
  | .lit _ => 1
  | .nil => 1
  | .ptr d => uptoBulk d + 1
  | .slice elems spare => uptoBulkAll elems + uptoBulkAll spare + 1
  | .agg parts => uptoBulkAll parts + 1
  | .iface _ d => uptoBulk d + 1
  | .map entries => uptoBulkEntries entries + 1
  | .held _ => 1
def uptoBulkAll {H : Type} : List (DataW H) → Nat
  | [] => 0
  | d :: r => uptoBulk d + uptoBulkAll r
def uptoBulkEntries {H : Type} : List (Lit × DataW H) → Nat
  | [] => 0
  | x :: r => uptoBulkEntry x + uptoBulkEntries r
def uptoBulkEntry {H : Type} : Lit × DataW H → Nat
  | (.string bytes, d) => bytes.length + uptoBulk d + 1
  | (_, d) => uptoBulk d + 1
 end
def uptoSmall : (H : Type) → List (DataW H) → Bool := fun _ ds => decide (uptoBulkAll ds ≤ 1048576)
def OpenSpec.upto (s : _root_.Go.ChangeSpec) : _root_.Go.OpenSpec := { _root_.Go.OpenSpec.ofChange s with cond := some uptoSmall }

/-- 'librarylaw14.ControlPuts', WHERE WHAT IT READS IS OF BULK AT MOST 1048576: true; the input reads as it did. -/
def controlPutsUptoRow : OpenClaim := { program := "ytlinaeklhkfbcaagreatdoor", sum := "1a0b255291c0e3d11b67a72bf0c20fc0b174fa762c3759306fdf37c512dc5d17", func := "library/librarylaw14.ControlPuts", spec := "controlPuts", inPlace := ["internal/bytealg.IndexByteString", "internal/abi.NoEscape", "internal/bytealg.MakeNoZero", "internal/bytealg.CountString", "internal/bytealg.IndexString"], unfollowed := true, recurses := true, named := ["library/rules.standard", "unicode/utf8.first", "unicode/utf8.acceptRanges", "internal/bytealg.MaxLen", "internal/strconv.uint64pow10", "math/bits.deBruijn32tab", "math/bits.deBruijn64tab"], plainKeys := false, apart := false, laid := [("math/bits.deBruijn32tab", laid_math_bits_deBruijn32tab), ("math/bits.deBruijn64tab", laid_math_bits_deBruijn64tab), ("internal/strconv.uint64pow10", laid_internal_strconv_uint64pow10), ("unicode/utf8.acceptRanges", laid_unicode_utf8_acceptRanges), ("library/rules.standard", laid_library_rules_standard), ("unicode/utf8.first", laid_unicode_utf8_first)], narrowed := true }
def ControlPutsUptoSaid : Prop := controlPutsUptoRow.holds Tryz.pinned (OpenSpec.upto controlPutsSpec)

/-- 'librarylaw14.ControlTurns', WHERE WHAT IT READS IS OF BULK AT MOST 1048576: true; the input reads as it did. -/
def controlTurnsUptoRow : OpenClaim := { program := "ytlinaeklhkfbcaagreatdoor", sum := "1a0b255291c0e3d11b67a72bf0c20fc0b174fa762c3759306fdf37c512dc5d17", func := "library/librarylaw14.ControlTurns", spec := "controlTurns", inPlace := ["internal/bytealg.IndexByteString", "internal/abi.NoEscape", "internal/bytealg.MakeNoZero", "internal/bytealg.CountString", "internal/bytealg.IndexString"], unfollowed := true, recurses := true, named := ["library/rules.standard", "unicode/utf8.first", "unicode/utf8.acceptRanges", "internal/bytealg.MaxLen", "internal/strconv.uint64pow10", "math/bits.deBruijn32tab", "math/bits.deBruijn64tab"], plainKeys := false, apart := false, laid := [("math/bits.deBruijn32tab", laid_math_bits_deBruijn32tab), ("math/bits.deBruijn64tab", laid_math_bits_deBruijn64tab), ("internal/strconv.uint64pow10", laid_internal_strconv_uint64pow10), ("unicode/utf8.acceptRanges", laid_unicode_utf8_acceptRanges), ("library/rules.standard", laid_library_rules_standard), ("unicode/utf8.first", laid_unicode_utf8_first)], narrowed := true }
def ControlTurnsUptoSaid : Prop := controlTurnsUptoRow.holds Tryz.pinned (OpenSpec.upto controlTurnsSpec)

/-- 'librarylaw14.ControlLists', WHERE WHAT IT READS IS OF BULK AT MOST 1048576: true; the input reads as it did. -/
def controlListsUptoRow : OpenClaim := { program := "ytlinaeklhkfbcaagreatdoor", sum := "1a0b255291c0e3d11b67a72bf0c20fc0b174fa762c3759306fdf37c512dc5d17", func := "library/librarylaw14.ControlLists", spec := "controlLists", inPlace := ["internal/bytealg.IndexByteString", "internal/abi.NoEscape", "internal/bytealg.MakeNoZero", "internal/bytealg.CountString", "internal/bytealg.IndexString"], unfollowed := true, recurses := true, named := ["library/rules.standard", "unicode/utf8.first", "unicode/utf8.acceptRanges", "internal/bytealg.MaxLen", "internal/strconv.uint64pow10", "math/bits.deBruijn32tab", "math/bits.deBruijn64tab"], plainKeys := false, apart := false, laid := [("math/bits.deBruijn32tab", laid_math_bits_deBruijn32tab), ("math/bits.deBruijn64tab", laid_math_bits_deBruijn64tab), ("internal/strconv.uint64pow10", laid_internal_strconv_uint64pow10), ("unicode/utf8.acceptRanges", laid_unicode_utf8_acceptRanges), ("library/rules.standard", laid_library_rules_standard), ("unicode/utf8.first", laid_unicode_utf8_first)], narrowed := true }
def ControlListsUptoSaid : Prop := controlListsUptoRow.holds Tryz.pinned (OpenSpec.upto controlListsSpec)

/-- 'librarylaw14.ControlMoves', WHERE WHAT IT READS IS OF BULK AT MOST 1048576: true; the input reads as it did. -/
def controlMovesUptoRow : OpenClaim := { program := "ytlinaeklhkfbcaagreatdoor", sum := "1a0b255291c0e3d11b67a72bf0c20fc0b174fa762c3759306fdf37c512dc5d17", func := "library/librarylaw14.ControlMoves", spec := "controlMoves", inPlace := ["internal/bytealg.IndexByteString", "internal/abi.NoEscape", "internal/bytealg.MakeNoZero", "internal/bytealg.CountString", "internal/bytealg.IndexString"], unfollowed := true, recurses := true, named := ["library/rules.standard", "unicode/utf8.first", "unicode/utf8.acceptRanges", "internal/bytealg.MaxLen", "internal/strconv.uint64pow10", "math/bits.deBruijn32tab", "math/bits.deBruijn64tab"], plainKeys := false, apart := false, laid := [("math/bits.deBruijn32tab", laid_math_bits_deBruijn32tab), ("math/bits.deBruijn64tab", laid_math_bits_deBruijn64tab), ("internal/strconv.uint64pow10", laid_internal_strconv_uint64pow10), ("unicode/utf8.acceptRanges", laid_unicode_utf8_acceptRanges), ("library/rules.standard", laid_library_rules_standard), ("unicode/utf8.first", laid_unicode_utf8_first)], narrowed := true }
def ControlMovesUptoSaid : Prop := controlMovesUptoRow.holds Tryz.pinned (OpenSpec.upto controlMovesSpec)

end Rows
end Go.Proofs.YtlinaeklhkfbcaaGreatDoor
