/-
  NARROWER THAN 'FOR EVERY INPUT', by the rows' own cells (each row's printed sentence says how): JencIs: laid · OneKeys: loops, laid · TwoUps: loops, laid · TwoFromOne: loops, laid · ThreeUps: loops, laid · ThreeFromTwo: loops, laid.
  DERIVED. THE GIVEN ROWS OF THIS SEAT. 6 by the template 'for every input the law returns true; each argument reads behind the call as it read before'; 0 by the template 'total and deterministic' (their statements: YtliekocamnklfaaGreatDoorTotals.lean).
  GIVEN WITH THE SEED: the statements are not yours to turn. If you find one false, say at which input.
  Laid BY PROGRAM, IN A SANDBOX (cutbox-rows.mjs): the forced cells as the released guide's own fill.sh prints them over the translation 0c971ab8417656cf… (all of the seat's roots in one cut). By AI agents, Wed Nov 11 2026. No macro, syntax, notation, axiom, sorry.
-/
import Derived.Test.YtliekocamnklfaaGreatDoorChecked
import GoSem.PinnedTables
import GoSem.Claim
import GoSem.ClaimJoined
import GoSem.ClaimMapViews
import Derived.JoinedTies
import Derived.KernelRfl
namespace Go.Proofs.YtliekocamnklfaaGreatDoor
/- THE CELL 'sum', in the pinned program and in every row, IS THE sha256 OF THE DUMP (.gsa) THAT YtliekocamnklfaaGreatDoorProg.lean LOADS. Nothing in Lean hashes anything: it is a label: what it is worth is what the hold of that sum in a sandbox is worth. -/
noncomputable def Tryz.pinned : Pinned := { name := "ytliekocamnklfaagreatdoor", sum := "0c971ab8417656cfd8baa956ac5633578b9f2e53f5d0f27e17f04b0c5d3ae15e", checked := Tryz.checked }
namespace Rows
def none {H : Type} : Left H := { results := [], args := [] }

/- WHAT THE LISTED PACKAGE-LEVEL VARIABLES READ AS WHEN THE CALL BEGINS. Each datum BY PROGRAM (the guide's laid-datum.mjs) off the statement by which the dump's own 'gosem.cut.vars' lays the variable. In a bare row this is a premise. The card (YtliekocamnklfaaGreatDoorCards.lean) ties it to the program's text. -/
def laid_math_bits_deBruijn32tab {H : Type} : DataW H := .agg [.lit (.int .u8 0), .lit (.int .u8 1), .lit (.int .u8 28), .lit (.int .u8 2), .lit (.int .u8 29), .lit (.int .u8 14), .lit (.int .u8 24), .lit (.int .u8 3), .lit (.int .u8 30), .lit (.int .u8 22), .lit (.int .u8 20), .lit (.int .u8 15), .lit (.int .u8 25), .lit (.int .u8 17), .lit (.int .u8 4), .lit (.int .u8 8), .lit (.int .u8 31), .lit (.int .u8 27), .lit (.int .u8 13), .lit (.int .u8 23), .lit (.int .u8 21), .lit (.int .u8 19), .lit (.int .u8 16), .lit (.int .u8 7), .lit (.int .u8 26), .lit (.int .u8 12), .lit (.int .u8 18), .lit (.int .u8 6), .lit (.int .u8 11), .lit (.int .u8 5), .lit (.int .u8 10), .lit (.int .u8 9)]
def laid_math_bits_deBruijn64tab {H : Type} : DataW H := .agg [.lit (.int .u8 0), .lit (.int .u8 1), .lit (.int .u8 56), .lit (.int .u8 2), .lit (.int .u8 57), .lit (.int .u8 49), .lit (.int .u8 28), .lit (.int .u8 3), .lit (.int .u8 61), .lit (.int .u8 58), .lit (.int .u8 42), .lit (.int .u8 50), .lit (.int .u8 38), .lit (.int .u8 29), .lit (.int .u8 17), .lit (.int .u8 4), .lit (.int .u8 62), .lit (.int .u8 47), .lit (.int .u8 59), .lit (.int .u8 36), .lit (.int .u8 45), .lit (.int .u8 43), .lit (.int .u8 51), .lit (.int .u8 22), .lit (.int .u8 53), .lit (.int .u8 39), .lit (.int .u8 33), .lit (.int .u8 30), .lit (.int .u8 24), .lit (.int .u8 18), .lit (.int .u8 12), .lit (.int .u8 5), .lit (.int .u8 63), .lit (.int .u8 55), .lit (.int .u8 48), .lit (.int .u8 27), .lit (.int .u8 60), .lit (.int .u8 41), .lit (.int .u8 37), .lit (.int .u8 16), .lit (.int .u8 46), .lit (.int .u8 35), .lit (.int .u8 44), .lit (.int .u8 21), .lit (.int .u8 52), .lit (.int .u8 32), .lit (.int .u8 23), .lit (.int .u8 11), .lit (.int .u8 54), .lit (.int .u8 26), .lit (.int .u8 40), .lit (.int .u8 15), .lit (.int .u8 34), .lit (.int .u8 20), .lit (.int .u8 31), .lit (.int .u8 10), .lit (.int .u8 25), .lit (.int .u8 14), .lit (.int .u8 19), .lit (.int .u8 9), .lit (.int .u8 13), .lit (.int .u8 8), .lit (.int .u8 7), .lit (.int .u8 6)]
def laid_internal_strconv_uint64pow10 {H : Type} : DataW H := .agg [.lit (.int .u64 1), .lit (.int .u64 10), .lit (.int .u64 100), .lit (.int .u64 1000), .lit (.int .u64 10000), .lit (.int .u64 100000), .lit (.int .u64 1000000), .lit (.int .u64 10000000), .lit (.int .u64 100000000), .lit (.int .u64 1000000000), .lit (.int .u64 10000000000), .lit (.int .u64 100000000000), .lit (.int .u64 1000000000000), .lit (.int .u64 10000000000000), .lit (.int .u64 100000000000000), .lit (.int .u64 1000000000000000), .lit (.int .u64 10000000000000000), .lit (.int .u64 100000000000000000), .lit (.int .u64 1000000000000000000), .lit (.int .u64 10000000000000000000)]
def laid_unicode_utf8_acceptRanges {H : Type} : DataW H := .agg [.agg [.lit (.int .u8 128), .lit (.int .u8 191)], .agg [.lit (.int .u8 160), .lit (.int .u8 191)], .agg [.lit (.int .u8 128), .lit (.int .u8 159)], .agg [.lit (.int .u8 144), .lit (.int .u8 191)], .agg [.lit (.int .u8 128), .lit (.int .u8 143)], .agg [.lit (.int .u8 0), .lit (.int .u8 0)], .agg [.lit (.int .u8 0), .lit (.int .u8 0)], .agg [.lit (.int .u8 0), .lit (.int .u8 0)], .agg [.lit (.int .u8 0), .lit (.int .u8 0)], .agg [.lit (.int .u8 0), .lit (.int .u8 0)], .agg [.lit (.int .u8 0), .lit (.int .u8 0)], .agg [.lit (.int .u8 0), .lit (.int .u8 0)], .agg [.lit (.int .u8 0), .lit (.int .u8 0)], .agg [.lit (.int .u8 0), .lit (.int .u8 0)], .agg [.lit (.int .u8 0), .lit (.int .u8 0)], .agg [.lit (.int .u8 0), .lit (.int .u8 0)]]
def laid_tabularium_utf_sizes {H : Type} : DataW H := .agg [.lit (.int .i64 1), .lit (.int .i64 1), .lit (.int .i64 1), .lit (.int .i64 1), .lit (.int .i64 1), .lit (.int .i64 1), .lit (.int .i64 1), .lit (.int .i64 1), .lit (.int .i64 1), .lit (.int .i64 1), .lit (.int .i64 1), .lit (.int .i64 1), .lit (.int .i64 1), .lit (.int .i64 1), .lit (.int .i64 1), .lit (.int .i64 1), .lit (.int .i64 0), .lit (.int .i64 0), .lit (.int .i64 0), .lit (.int .i64 0), .lit (.int .i64 0), .lit (.int .i64 0), .lit (.int .i64 0), .lit (.int .i64 0), .lit (.int .i64 2), .lit (.int .i64 2), .lit (.int .i64 2), .lit (.int .i64 2), .lit (.int .i64 3), .lit (.int .i64 3), .lit (.int .i64 4), .lit (.int .i64 0)]
def laid_tabularium_num_steps {H : Type} : DataW H := .agg [.agg [.lit (.int .i64 1), .lit (.int .i64 9), .lit (.int .i64 2), .lit (.int .i64 3), .lit (.int .i64 9), .lit (.int .i64 9), .lit (.int .i64 9)], .agg [.lit (.int .i64 9), .lit (.int .i64 9), .lit (.int .i64 2), .lit (.int .i64 3), .lit (.int .i64 9), .lit (.int .i64 9), .lit (.int .i64 9)], .agg [.lit (.int .i64 9), .lit (.int .i64 9), .lit (.int .i64 9), .lit (.int .i64 9), .lit (.int .i64 4), .lit (.int .i64 6), .lit (.int .i64 9)], .agg [.lit (.int .i64 9), .lit (.int .i64 9), .lit (.int .i64 3), .lit (.int .i64 3), .lit (.int .i64 4), .lit (.int .i64 6), .lit (.int .i64 9)], .agg [.lit (.int .i64 9), .lit (.int .i64 9), .lit (.int .i64 5), .lit (.int .i64 5), .lit (.int .i64 9), .lit (.int .i64 9), .lit (.int .i64 9)], .agg [.lit (.int .i64 9), .lit (.int .i64 9), .lit (.int .i64 5), .lit (.int .i64 5), .lit (.int .i64 9), .lit (.int .i64 6), .lit (.int .i64 9)], .agg [.lit (.int .i64 7), .lit (.int .i64 7), .lit (.int .i64 8), .lit (.int .i64 8), .lit (.int .i64 9), .lit (.int .i64 9), .lit (.int .i64 9)], .agg [.lit (.int .i64 9), .lit (.int .i64 9), .lit (.int .i64 8), .lit (.int .i64 8), .lit (.int .i64 9), .lit (.int .i64 9), .lit (.int .i64 9)], .agg [.lit (.int .i64 9), .lit (.int .i64 9), .lit (.int .i64 8), .lit (.int .i64 8), .lit (.int .i64 9), .lit (.int .i64 9), .lit (.int .i64 9)]]
/-- One of Go's own tables, pinned by name: the form's constant. -/
def laid_unicode_utf8_first : DataW Unit := Go.Pinned.utf8First
def laid_strconv_ErrRange {H : Type} : DataW H := .iface "*errors.errorString" (.ptr (.agg [.lit (.string [118, 97, 108, 117, 101, 32, 111, 117, 116, 32, 111, 102, 32, 114, 97, 110, 103, 101])]))
def laid_strconv_ErrSyntax {H : Type} : DataW H := .iface "*errors.errorString" (.ptr (.agg [.lit (.string [105, 110, 118, 97, 108, 105, 100, 32, 115, 121, 110, 116, 97, 120])]))
def laid_tabularium_lex_doubles {H : Type} : DataW H := .agg [.lit (.string [61, 61]), .lit (.string [33, 61]), .lit (.string [60, 61]), .lit (.string [62, 61]), .lit (.string [38, 38]), .lit (.string [124, 124])]

/-- 'tabulariumlaw10.JencIs': WHATEVER THE INPUT: true; the input reads as it did. -/
def jencIsSpec : ChangeSpec := { name := "jencIs", fn := fun _ => fun
  | [d] => { results := [.lit (.bool true)], args := [d] }
  | _ => none }
def jencIsRow : OpenClaim := { program := "ytliekocamnklfaagreatdoor", sum := "0c971ab8417656cfd8baa956ac5633578b9f2e53f5d0f27e17f04b0c5d3ae15e", func := "tabularium/tabulariumlaw10.JencIs", spec := "jencIs", inPlace := ["internal/abi.NoEscape", "internal/bytealg.MakeNoZero", "internal/bytealg.abigen_runtime_cmpstring", "internal/bytealg.IndexByteString", "internal/bytealg.IndexString"], unfollowed := true, recurses := true, named := ["tabularium/utf.sizes", "internal/strconv.uint64pow10", "math/bits.deBruijn32tab", "math/bits.deBruijn64tab", "tabularium/num.steps", "unicode/utf8.first", "unicode/utf8.acceptRanges", "internal/bytealg.MaxLen"], apart := false, laid := [("math/bits.deBruijn32tab", laid_math_bits_deBruijn32tab), ("math/bits.deBruijn64tab", laid_math_bits_deBruijn64tab), ("internal/strconv.uint64pow10", laid_internal_strconv_uint64pow10), ("unicode/utf8.acceptRanges", laid_unicode_utf8_acceptRanges), ("tabularium/utf.sizes", laid_tabularium_utf_sizes), ("tabularium/num.steps", laid_tabularium_num_steps), ("unicode/utf8.first", laid_unicode_utf8_first)] }
def JencIsSaid : Prop := jencIsRow.holds Tryz.pinned (OpenSpec.ofChange jencIsSpec)

/-- ITS FALSE NEIGHBOUR: 'it returns false'. Refute it at one input. -/
def jencIsWrong : ChangeSpec := { name := "jencIs", fn := fun _ => fun
  | [d] => { results := [.lit (.bool false)], args := [d] }
  | _ => none }
def JencIsWrongFalsely : Prop := jencIsRow.holds Tryz.pinned (OpenSpec.ofChange jencIsWrong)

/-- 'tabulariumlaw19.OneKeys': WHATEVER THE INPUT: true; the input reads as it did. -/
def oneKeysSpec : ChangeSpec := { name := "oneKeys", fn := fun _ => fun
  | [d1, d2] => { results := [.lit (.bool true)], args := [d1, d2] }
  | _ => none }
def oneKeysRow : OpenClaim := { program := "ytliekocamnklfaagreatdoor", sum := "0c971ab8417656cfd8baa956ac5633578b9f2e53f5d0f27e17f04b0c5d3ae15e", func := "tabularium/tabulariumlaw19.OneKeys", spec := "oneKeys", inPlace := ["internal/bytealg.IndexByteString", "internal/bytealg.IndexString", "internal/abi.NoEscape", "internal/bytealg.MakeNoZero", "internal/bytealg.CountString"], unfollowed := true, recurses := true, named := ["internal/strconv.uint64pow10", "math/bits.deBruijn32tab", "math/bits.deBruijn64tab", "unicode/utf8.first", "unicode/utf8.acceptRanges", "tabularium/utf.sizes", "strconv.ErrSyntax", "strconv.ErrRange", "internal/bytealg.MaxLen", "tabularium/num.steps", "tabularium/lex.doubles"], loops := true, apart := false, laid := [("math/bits.deBruijn32tab", laid_math_bits_deBruijn32tab), ("math/bits.deBruijn64tab", laid_math_bits_deBruijn64tab), ("internal/strconv.uint64pow10", laid_internal_strconv_uint64pow10), ("unicode/utf8.acceptRanges", laid_unicode_utf8_acceptRanges), ("strconv.ErrRange", laid_strconv_ErrRange), ("strconv.ErrSyntax", laid_strconv_ErrSyntax), ("tabularium/utf.sizes", laid_tabularium_utf_sizes), ("tabularium/num.steps", laid_tabularium_num_steps), ("tabularium/lex.doubles", laid_tabularium_lex_doubles), ("unicode/utf8.first", laid_unicode_utf8_first)] }
def OneKeysSaid : Prop := oneKeysRow.holds Tryz.pinned (OpenSpec.ofChange oneKeysSpec)

/-- ITS FALSE NEIGHBOUR: 'it returns false'. Refute it at one input. -/
def oneKeysWrong : ChangeSpec := { name := "oneKeys", fn := fun _ => fun
  | [d1, d2] => { results := [.lit (.bool false)], args := [d1, d2] }
  | _ => none }
def OneKeysWrongFalsely : Prop := oneKeysRow.holds Tryz.pinned (OpenSpec.ofChange oneKeysWrong)

/-- 'tabulariumlaw20.TwoUps': WHATEVER THE INPUT: true; the input reads as it did. -/
def twoUpsSpec : ChangeSpec := { name := "twoUps", fn := fun _ => fun
  | [d] => { results := [.lit (.bool true)], args := [d] }
  | _ => none }
def twoUpsRow : OpenClaim := { program := "ytliekocamnklfaagreatdoor", sum := "0c971ab8417656cfd8baa956ac5633578b9f2e53f5d0f27e17f04b0c5d3ae15e", func := "tabularium/tabulariumlaw20.TwoUps", spec := "twoUps", inPlace := ["internal/bytealg.IndexByteString", "internal/abi.NoEscape", "internal/bytealg.MakeNoZero", "internal/bytealg.IndexString", "internal/bytealg.CountString"], unfollowed := true, recurses := true, named := ["tabularium/utf.sizes", "strconv.ErrSyntax", "strconv.ErrRange", "internal/strconv.uint64pow10", "math/bits.deBruijn32tab", "math/bits.deBruijn64tab", "tabularium/num.steps", "unicode/utf8.first", "unicode/utf8.acceptRanges", "internal/bytealg.MaxLen", "tabularium/lex.doubles"], loops := true, apart := false, laid := [("math/bits.deBruijn32tab", laid_math_bits_deBruijn32tab), ("math/bits.deBruijn64tab", laid_math_bits_deBruijn64tab), ("internal/strconv.uint64pow10", laid_internal_strconv_uint64pow10), ("unicode/utf8.acceptRanges", laid_unicode_utf8_acceptRanges), ("strconv.ErrRange", laid_strconv_ErrRange), ("strconv.ErrSyntax", laid_strconv_ErrSyntax), ("tabularium/utf.sizes", laid_tabularium_utf_sizes), ("tabularium/num.steps", laid_tabularium_num_steps), ("tabularium/lex.doubles", laid_tabularium_lex_doubles), ("unicode/utf8.first", laid_unicode_utf8_first)] }
def TwoUpsSaid : Prop := twoUpsRow.holds Tryz.pinned (OpenSpec.ofChange twoUpsSpec)

/-- ITS FALSE NEIGHBOUR: 'it returns false'. Refute it at one input. -/
def twoUpsWrong : ChangeSpec := { name := "twoUps", fn := fun _ => fun
  | [d] => { results := [.lit (.bool false)], args := [d] }
  | _ => none }
def TwoUpsWrongFalsely : Prop := twoUpsRow.holds Tryz.pinned (OpenSpec.ofChange twoUpsWrong)

/-- 'tabulariumlaw20.TwoFromOne': WHATEVER THE INPUT: true; the input reads as it did. -/
def twoFromOneSpec : ChangeSpec := { name := "twoFromOne", fn := fun _ => fun
  | [d] => { results := [.lit (.bool true)], args := [d] }
  | _ => none }
def twoFromOneRow : OpenClaim := { program := "ytliekocamnklfaagreatdoor", sum := "0c971ab8417656cfd8baa956ac5633578b9f2e53f5d0f27e17f04b0c5d3ae15e", func := "tabularium/tabulariumlaw20.TwoFromOne", spec := "twoFromOne", inPlace := ["internal/bytealg.IndexByteString", "internal/abi.NoEscape", "internal/bytealg.MakeNoZero", "internal/bytealg.CountString", "internal/bytealg.IndexString"], unfollowed := true, recurses := true, named := ["tabularium/utf.sizes", "strconv.ErrSyntax", "strconv.ErrRange", "internal/strconv.uint64pow10", "math/bits.deBruijn32tab", "math/bits.deBruijn64tab", "unicode/utf8.first", "unicode/utf8.acceptRanges", "internal/bytealg.MaxLen", "tabularium/num.steps", "tabularium/lex.doubles"], loops := true, apart := false, laid := [("math/bits.deBruijn32tab", laid_math_bits_deBruijn32tab), ("math/bits.deBruijn64tab", laid_math_bits_deBruijn64tab), ("internal/strconv.uint64pow10", laid_internal_strconv_uint64pow10), ("unicode/utf8.acceptRanges", laid_unicode_utf8_acceptRanges), ("strconv.ErrRange", laid_strconv_ErrRange), ("strconv.ErrSyntax", laid_strconv_ErrSyntax), ("tabularium/utf.sizes", laid_tabularium_utf_sizes), ("tabularium/num.steps", laid_tabularium_num_steps), ("tabularium/lex.doubles", laid_tabularium_lex_doubles), ("unicode/utf8.first", laid_unicode_utf8_first)] }
def TwoFromOneSaid : Prop := twoFromOneRow.holds Tryz.pinned (OpenSpec.ofChange twoFromOneSpec)

/-- ITS FALSE NEIGHBOUR: 'it returns false'. Refute it at one input. -/
def twoFromOneWrong : ChangeSpec := { name := "twoFromOne", fn := fun _ => fun
  | [d] => { results := [.lit (.bool false)], args := [d] }
  | _ => none }
def TwoFromOneWrongFalsely : Prop := twoFromOneRow.holds Tryz.pinned (OpenSpec.ofChange twoFromOneWrong)

/-- 'tabulariumlaw21.ThreeUps': WHATEVER THE INPUT: true; the input reads as it did. -/
def threeUpsSpec : ChangeSpec := { name := "threeUps", fn := fun _ => fun
  | [d] => { results := [.lit (.bool true)], args := [d] }
  | _ => none }
def threeUpsRow : OpenClaim := { program := "ytliekocamnklfaagreatdoor", sum := "0c971ab8417656cfd8baa956ac5633578b9f2e53f5d0f27e17f04b0c5d3ae15e", func := "tabularium/tabulariumlaw21.ThreeUps", spec := "threeUps", inPlace := ["internal/abi.NoEscape", "internal/bytealg.MakeNoZero", "internal/bytealg.IndexByteString", "internal/bytealg.IndexString", "internal/bytealg.CountString"], unfollowed := true, recurses := true, named := ["tabularium/utf.sizes", "strconv.ErrSyntax", "strconv.ErrRange", "internal/strconv.uint64pow10", "math/bits.deBruijn32tab", "math/bits.deBruijn64tab", "tabularium/num.steps", "unicode/utf8.first", "unicode/utf8.acceptRanges", "internal/bytealg.MaxLen", "tabularium/lex.doubles"], loops := true, apart := false, laid := [("math/bits.deBruijn32tab", laid_math_bits_deBruijn32tab), ("math/bits.deBruijn64tab", laid_math_bits_deBruijn64tab), ("internal/strconv.uint64pow10", laid_internal_strconv_uint64pow10), ("unicode/utf8.acceptRanges", laid_unicode_utf8_acceptRanges), ("strconv.ErrRange", laid_strconv_ErrRange), ("strconv.ErrSyntax", laid_strconv_ErrSyntax), ("tabularium/utf.sizes", laid_tabularium_utf_sizes), ("tabularium/num.steps", laid_tabularium_num_steps), ("tabularium/lex.doubles", laid_tabularium_lex_doubles), ("unicode/utf8.first", laid_unicode_utf8_first)] }
def ThreeUpsSaid : Prop := threeUpsRow.holds Tryz.pinned (OpenSpec.ofChange threeUpsSpec)

/-- ITS FALSE NEIGHBOUR: 'it returns false'. Refute it at one input. -/
def threeUpsWrong : ChangeSpec := { name := "threeUps", fn := fun _ => fun
  | [d] => { results := [.lit (.bool false)], args := [d] }
  | _ => none }
def ThreeUpsWrongFalsely : Prop := threeUpsRow.holds Tryz.pinned (OpenSpec.ofChange threeUpsWrong)

/-- 'tabulariumlaw21.ThreeFromTwo': WHATEVER THE INPUT: true; the input reads as it did. -/
def threeFromTwoSpec : ChangeSpec := { name := "threeFromTwo", fn := fun _ => fun
  | [d] => { results := [.lit (.bool true)], args := [d] }
  | _ => none }
def threeFromTwoRow : OpenClaim := { program := "ytliekocamnklfaagreatdoor", sum := "0c971ab8417656cfd8baa956ac5633578b9f2e53f5d0f27e17f04b0c5d3ae15e", func := "tabularium/tabulariumlaw21.ThreeFromTwo", spec := "threeFromTwo", inPlace := ["internal/abi.NoEscape", "internal/bytealg.MakeNoZero", "internal/bytealg.IndexByteString", "internal/bytealg.IndexString", "internal/bytealg.CountString"], unfollowed := true, recurses := true, named := ["tabularium/utf.sizes", "strconv.ErrSyntax", "strconv.ErrRange", "internal/strconv.uint64pow10", "math/bits.deBruijn32tab", "math/bits.deBruijn64tab", "tabularium/num.steps", "unicode/utf8.first", "unicode/utf8.acceptRanges", "internal/bytealg.MaxLen", "tabularium/lex.doubles"], loops := true, apart := false, laid := [("math/bits.deBruijn32tab", laid_math_bits_deBruijn32tab), ("math/bits.deBruijn64tab", laid_math_bits_deBruijn64tab), ("internal/strconv.uint64pow10", laid_internal_strconv_uint64pow10), ("unicode/utf8.acceptRanges", laid_unicode_utf8_acceptRanges), ("strconv.ErrRange", laid_strconv_ErrRange), ("strconv.ErrSyntax", laid_strconv_ErrSyntax), ("tabularium/utf.sizes", laid_tabularium_utf_sizes), ("tabularium/num.steps", laid_tabularium_num_steps), ("tabularium/lex.doubles", laid_tabularium_lex_doubles), ("unicode/utf8.first", laid_unicode_utf8_first)] }
def ThreeFromTwoSaid : Prop := threeFromTwoRow.holds Tryz.pinned (OpenSpec.ofChange threeFromTwoSpec)

/-- ITS FALSE NEIGHBOUR: 'it returns false'. Refute it at one input. -/
def threeFromTwoWrong : ChangeSpec := { name := "threeFromTwo", fn := fun _ => fun
  | [d] => { results := [.lit (.bool false)], args := [d] }
  | _ => none }
def ThreeFromTwoWrongFalsely : Prop := threeFromTwoRow.holds Tryz.pinned (OpenSpec.ofChange threeFromTwoWrong)

/- THE SECOND FORM. 'bulk': how many values and letters a reading holds, each counted each time it is reached (what is shared counts as often as it is met; a slice's spare places count too). A statement '..UptoSaid' is the law's where the arguments, and the package variables that the reading takes, are together of bulk at most 1048576: NARROWER than '..Said'. Prove '..Said' where nothing that the law and all that it calls make is longer than what came in: it says more and counts as full. Else prove '..UptoSaid'. A law counts once. -/
mutual
def uptoBulk {H : Type} : DataW H → Nat
  | .lit (.string bytes) => bytes.length + 1
  | .lit _ => 1
  | .nil => 1
  | .ptr d => uptoBulk d + 1
  | .slice elems spare => uptoBulkAll elems + uptoBulkAll spare + 1
  | .agg parts => uptoBulkAll parts + 1
  | .iface _ d => uptoBulk d + 1
  | .map entries => uptoBulkEntries entries + 1
  | .held _ => 1
def uptoBulkAll {H : Type} : List (DataW H) → Nat
  | [] => 0
  | d :: r => uptoBulk d + uptoBulkAll r
def uptoBulkEntries {H : Type} : List (Lit × DataW H) → Nat
  | [] => 0
  | x :: r => uptoBulkEntry x + uptoBulkEntries r
def uptoBulkEntry {H : Type} : Lit × DataW H → Nat
  | (.string bytes, d) => bytes.length + uptoBulk d + 1
  | (_, d) => uptoBulk d + 1
 end
def uptoSmall : (H : Type) → List (DataW H) → Bool := fun _ ds => decide (uptoBulkAll ds ≤ 1048576)
def OpenSpec.upto (s : _root_.Go.ChangeSpec) : _root_.Go.OpenSpec := { _root_.Go.OpenSpec.ofChange s with cond := some uptoSmall }

/-- 'tabulariumlaw10.JencIs', WHERE WHAT IT READS IS OF BULK AT MOST 1048576: true; the input reads as it did. -/
def jencIsUptoRow : OpenClaim := { program := "ytliekocamnklfaagreatdoor", sum := "0c971ab8417656cfd8baa956ac5633578b9f2e53f5d0f27e17f04b0c5d3ae15e", func := "tabularium/tabulariumlaw10.JencIs", spec := "jencIs", inPlace := ["internal/abi.NoEscape", "internal/bytealg.MakeNoZero", "internal/bytealg.abigen_runtime_cmpstring", "internal/bytealg.IndexByteString", "internal/bytealg.IndexString"], unfollowed := true, recurses := true, named := ["tabularium/utf.sizes", "internal/strconv.uint64pow10", "math/bits.deBruijn32tab", "math/bits.deBruijn64tab", "tabularium/num.steps", "unicode/utf8.first", "unicode/utf8.acceptRanges", "internal/bytealg.MaxLen"], apart := false, laid := [("math/bits.deBruijn32tab", laid_math_bits_deBruijn32tab), ("math/bits.deBruijn64tab", laid_math_bits_deBruijn64tab), ("internal/strconv.uint64pow10", laid_internal_strconv_uint64pow10), ("unicode/utf8.acceptRanges", laid_unicode_utf8_acceptRanges), ("tabularium/utf.sizes", laid_tabularium_utf_sizes), ("tabularium/num.steps", laid_tabularium_num_steps), ("unicode/utf8.first", laid_unicode_utf8_first)], narrowed := true }
def JencIsUptoSaid : Prop := jencIsUptoRow.holds Tryz.pinned (OpenSpec.upto jencIsSpec)

/-- 'tabulariumlaw19.OneKeys', WHERE WHAT IT READS IS OF BULK AT MOST 1048576: true; the input reads as it did. -/
def oneKeysUptoRow : OpenClaim := { program := "ytliekocamnklfaagreatdoor", sum := "0c971ab8417656cfd8baa956ac5633578b9f2e53f5d0f27e17f04b0c5d3ae15e", func := "tabularium/tabulariumlaw19.OneKeys", spec := "oneKeys", inPlace := ["internal/bytealg.IndexByteString", "internal/bytealg.IndexString", "internal/abi.NoEscape", "internal/bytealg.MakeNoZero", "internal/bytealg.CountString"], unfollowed := true, recurses := true, named := ["internal/strconv.uint64pow10", "math/bits.deBruijn32tab", "math/bits.deBruijn64tab", "unicode/utf8.first", "unicode/utf8.acceptRanges", "tabularium/utf.sizes", "strconv.ErrSyntax", "strconv.ErrRange", "internal/bytealg.MaxLen", "tabularium/num.steps", "tabularium/lex.doubles"], loops := true, apart := false, laid := [("math/bits.deBruijn32tab", laid_math_bits_deBruijn32tab), ("math/bits.deBruijn64tab", laid_math_bits_deBruijn64tab), ("internal/strconv.uint64pow10", laid_internal_strconv_uint64pow10), ("unicode/utf8.acceptRanges", laid_unicode_utf8_acceptRanges), ("strconv.ErrRange", laid_strconv_ErrRange), ("strconv.ErrSyntax", laid_strconv_ErrSyntax), ("tabularium/utf.sizes", laid_tabularium_utf_sizes), ("tabularium/num.steps", laid_tabularium_num_steps), ("tabularium/lex.doubles", laid_tabularium_lex_doubles), ("unicode/utf8.first", laid_unicode_utf8_first)], narrowed := true }
def OneKeysUptoSaid : Prop := oneKeysUptoRow.holds Tryz.pinned (OpenSpec.upto oneKeysSpec)

/-- 'tabulariumlaw20.TwoUps', WHERE WHAT IT READS IS OF BULK AT MOST 1048576: true; the input reads as it did. -/
def twoUpsUptoRow : OpenClaim := { program := "ytliekocamnklfaagreatdoor", sum := "0c971ab8417656cfd8baa956ac5633578b9f2e53f5d0f27e17f04b0c5d3ae15e", func := "tabularium/tabulariumlaw20.TwoUps", spec := "twoUps", inPlace := ["internal/bytealg.IndexByteString", "internal/abi.NoEscape", "internal/bytealg.MakeNoZero", "internal/bytealg.IndexString", "internal/bytealg.CountString"], unfollowed := true, recurses := true, named := ["tabularium/utf.sizes", "strconv.ErrSyntax", "strconv.ErrRange", "internal/strconv.uint64pow10", "math/bits.deBruijn32tab", "math/bits.deBruijn64tab", "tabularium/num.steps", "unicode/utf8.first", "unicode/utf8.acceptRanges", "internal/bytealg.MaxLen", "tabularium/lex.doubles"], loops := true, apart := false, laid := [("math/bits.deBruijn32tab", laid_math_bits_deBruijn32tab), ("math/bits.deBruijn64tab", laid_math_bits_deBruijn64tab), ("internal/strconv.uint64pow10", laid_internal_strconv_uint64pow10), ("unicode/utf8.acceptRanges", laid_unicode_utf8_acceptRanges), ("strconv.ErrRange", laid_strconv_ErrRange), ("strconv.ErrSyntax", laid_strconv_ErrSyntax), ("tabularium/utf.sizes", laid_tabularium_utf_sizes), ("tabularium/num.steps", laid_tabularium_num_steps), ("tabularium/lex.doubles", laid_tabularium_lex_doubles), ("unicode/utf8.first", laid_unicode_utf8_first)], narrowed := true }
def TwoUpsUptoSaid : Prop := twoUpsUptoRow.holds Tryz.pinned (OpenSpec.upto twoUpsSpec)

/-- 'tabulariumlaw20.TwoFromOne', WHERE WHAT IT READS IS OF BULK AT MOST 1048576: true; the input reads as it did. -/
def twoFromOneUptoRow : OpenClaim := { program := "ytliekocamnklfaagreatdoor", sum := "0c971ab8417656cfd8baa956ac5633578b9f2e53f5d0f27e17f04b0c5d3ae15e", func := "tabularium/tabulariumlaw20.TwoFromOne", spec := "twoFromOne", inPlace := ["internal/bytealg.IndexByteString", "internal/abi.NoEscape", "internal/bytealg.MakeNoZero", "internal/bytealg.CountString", "internal/bytealg.IndexString"], unfollowed := true, recurses := true, named := ["tabularium/utf.sizes", "strconv.ErrSyntax", "strconv.ErrRange", "internal/strconv.uint64pow10", "math/bits.deBruijn32tab", "math/bits.deBruijn64tab", "unicode/utf8.first", "unicode/utf8.acceptRanges", "internal/bytealg.MaxLen", "tabularium/num.steps", "tabularium/lex.doubles"], loops := true, apart := false, laid := [("math/bits.deBruijn32tab", laid_math_bits_deBruijn32tab), ("math/bits.deBruijn64tab", laid_math_bits_deBruijn64tab), ("internal/strconv.uint64pow10", laid_internal_strconv_uint64pow10), ("unicode/utf8.acceptRanges", laid_unicode_utf8_acceptRanges), ("strconv.ErrRange", laid_strconv_ErrRange), ("strconv.ErrSyntax", laid_strconv_ErrSyntax), ("tabularium/utf.sizes", laid_tabularium_utf_sizes), ("tabularium/num.steps", laid_tabularium_num_steps), ("tabularium/lex.doubles", laid_tabularium_lex_doubles), ("unicode/utf8.first", laid_unicode_utf8_first)], narrowed := true }
def TwoFromOneUptoSaid : Prop := twoFromOneUptoRow.holds Tryz.pinned (OpenSpec.upto twoFromOneSpec)

/-- 'tabulariumlaw21.ThreeUps', WHERE WHAT IT READS IS OF BULK AT MOST 1048576: true; the input reads as it did. -/
def threeUpsUptoRow : OpenClaim := { program := "ytliekocamnklfaagreatdoor", sum := "0c971ab8417656cfd8baa956ac5633578b9f2e53f5d0f27e17f04b0c5d3ae15e", func := "tabularium/tabulariumlaw21.ThreeUps", spec := "threeUps", inPlace := ["internal/abi.NoEscape", "internal/bytealg.MakeNoZero", "internal/bytealg.IndexByteString", "internal/bytealg.IndexString", "internal/bytealg.CountString"], unfollowed := true, recurses := true, named := ["tabularium/utf.sizes", "strconv.ErrSyntax", "strconv.ErrRange", "internal/strconv.uint64pow10", "math/bits.deBruijn32tab", "math/bits.deBruijn64tab", "tabularium/num.steps", "unicode/utf8.first", "unicode/utf8.acceptRanges", "internal/bytealg.MaxLen", "tabularium/lex.doubles"], loops := true, apart := false, laid := [("math/bits.deBruijn32tab", laid_math_bits_deBruijn32tab), ("math/bits.deBruijn64tab", laid_math_bits_deBruijn64tab), ("internal/strconv.uint64pow10", laid_internal_strconv_uint64pow10), ("unicode/utf8.acceptRanges", laid_unicode_utf8_acceptRanges), ("strconv.ErrRange", laid_strconv_ErrRange), ("strconv.ErrSyntax", laid_strconv_ErrSyntax), ("tabularium/utf.sizes", laid_tabularium_utf_sizes), ("tabularium/num.steps", laid_tabularium_num_steps), ("tabularium/lex.doubles", laid_tabularium_lex_doubles), ("unicode/utf8.first", laid_unicode_utf8_first)], narrowed := true }
def ThreeUpsUptoSaid : Prop := threeUpsUptoRow.holds Tryz.pinned (OpenSpec.upto threeUpsSpec)

/-- 'tabulariumlaw21.ThreeFromTwo', WHERE WHAT IT READS IS OF BULK AT MOST 1048576: true; the input reads as it did. -/
def threeFromTwoUptoRow : OpenClaim := { program := "ytliekocamnklfaagreatdoor", sum := "0c971ab8417656cfd8baa956ac5633578b9f2e53f5d0f27e17f04b0c5d3ae15e", func := "tabularium/tabulariumlaw21.ThreeFromTwo", spec := "threeFromTwo", inPlace := ["internal/abi.NoEscape", "internal/bytealg.MakeNoZero", "internal/bytealg.IndexByteString", "internal/bytealg.IndexString", "internal/bytealg.CountString"], unfollowed := true, recurses := true, named := ["tabularium/utf.sizes", "strconv.ErrSyntax", "strconv.ErrRange", "internal/strconv.uint64pow10", "math/bits.deBruijn32tab", "math/bits.deBruijn64tab", "tabularium/num.steps", "unicode/utf8.first", "unicode/utf8.acceptRanges", "internal/bytealg.MaxLen", "tabularium/lex.doubles"], loops := true, apart := false, laid := [("math/bits.deBruijn32tab", laid_math_bits_deBruijn32tab), ("math/bits.deBruijn64tab", laid_math_bits_deBruijn64tab), ("internal/strconv.uint64pow10", laid_internal_strconv_uint64pow10), ("unicode/utf8.acceptRanges", laid_unicode_utf8_acceptRanges), ("strconv.ErrRange", laid_strconv_ErrRange), ("strconv.ErrSyntax", laid_strconv_ErrSyntax), ("tabularium/utf.sizes", laid_tabularium_utf_sizes), ("tabularium/num.steps", laid_tabularium_num_steps), ("tabularium/lex.doubles", laid_tabularium_lex_doubles), ("unicode/utf8.first", laid_unicode_utf8_first)], narrowed := true }
def ThreeFromTwoUptoSaid : Prop := threeFromTwoUptoRow.holds Tryz.pinned (OpenSpec.upto threeFromTwoSpec)

end Rows
end Go.Proofs.YtliekocamnklfaaGreatDoor
