/-
  NARROWER THAN 'FOR EVERY INPUT', by the rows' own cells (each row's printed sentence says how): LexTokensMatchSpec: laid · LexSpotMatchesSpec: laid · LexJoinMatchesSpec: laid · LexTokensLieInText: laid · LexJoinKeepsTokens: laid · LexGapsDoNotMatter: laid · ParseMatchesSpec: laid · ParsePrintsAsSpecified: laid · ParseRoundTrip: laid · ParseCanonical: laid · ParseIgnoresSpace: laid · ParseErrorsAreAtTokens: laid.
  DERIVED. THE GIVEN ROWS OF THIS SEAT. 12 by the template 'for every input the law returns true; each argument reads behind the call as it read before'; 0 by the template 'total and deterministic' (their statements: YtecldgjdmomilaaDoorTotals.lean).
  GIVEN WITH THE SEED: the statements are not yours to turn. If you find one false, say at which input.
  Laid BY PROGRAM, IN A SANDBOX (cutbox-rows.mjs): the forced cells as the released guide's own fill.sh prints them over the translation 50fe536d50e6b695… (all of the seat's roots in one cut). By AI agents, Wed Nov 11 2026. No macro, syntax, notation, axiom, sorry.
-/
import Derived.Test.YtecldgjdmomilaaDoorChecked
import GoSem.Claim
import GoSem.ClaimJoined
import GoSem.ClaimMapViews
import Derived.JoinedTies
import Derived.KernelRfl
namespace Go.Proofs.YtecldgjdmomilaaDoor
/- THE CELL 'sum', in the pinned program and in every row, IS THE sha256 OF THE DUMP (.gsa) THAT YtecldgjdmomilaaDoorProg.lean LOADS. Nothing in Lean hashes anything: it is a label: what it is worth is what the hold of that sum in a sandbox is worth. -/
noncomputable def Tryd.pinned : Pinned := { name := "ytecldgjdmomilaadoor", sum := "50fe536d50e6b69550f8792e785dd2f7442bd72be3857cfd82d5276ed410d1fb", checked := Tryd.checked }
namespace Rows
def none {H : Type} : Left H := { results := [], args := [] }

/- WHAT THE LISTED PACKAGE-LEVEL VARIABLES READ AS WHEN THE CALL BEGINS. Each datum BY PROGRAM (the guide's laid-datum.mjs) off the statement by which the dump's own 'gosem.cut.vars' lays the variable. In a bare row this is a premise. The card (YtecldgjdmomilaaDoorCards.lean) ties it to the program's text. -/
def laid_custody_lex_units {H : Type} : DataW H := .agg [.agg [.lit (.int .u8 115), .lit (.int .i64 1)], .agg [.lit (.int .u8 109), .lit (.int .i64 60)], .agg [.lit (.int .u8 104), .lit (.int .i64 3600)], .agg [.lit (.int .u8 100), .lit (.int .i64 86400)]]
def laid_math_bits_deBruijn32tab {H : Type} : DataW H := .agg [.lit (.int .u8 0), .lit (.int .u8 1), .lit (.int .u8 28), .lit (.int .u8 2), .lit (.int .u8 29), .lit (.int .u8 14), .lit (.int .u8 24), .lit (.int .u8 3), .lit (.int .u8 30), .lit (.int .u8 22), .lit (.int .u8 20), .lit (.int .u8 15), .lit (.int .u8 25), .lit (.int .u8 17), .lit (.int .u8 4), .lit (.int .u8 8), .lit (.int .u8 31), .lit (.int .u8 27), .lit (.int .u8 13), .lit (.int .u8 23), .lit (.int .u8 21), .lit (.int .u8 19), .lit (.int .u8 16), .lit (.int .u8 7), .lit (.int .u8 26), .lit (.int .u8 12), .lit (.int .u8 18), .lit (.int .u8 6), .lit (.int .u8 11), .lit (.int .u8 5), .lit (.int .u8 10), .lit (.int .u8 9)]
def laid_math_bits_deBruijn64tab {H : Type} : DataW H := .agg [.lit (.int .u8 0), .lit (.int .u8 1), .lit (.int .u8 56), .lit (.int .u8 2), .lit (.int .u8 57), .lit (.int .u8 49), .lit (.int .u8 28), .lit (.int .u8 3), .lit (.int .u8 61), .lit (.int .u8 58), .lit (.int .u8 42), .lit (.int .u8 50), .lit (.int .u8 38), .lit (.int .u8 29), .lit (.int .u8 17), .lit (.int .u8 4), .lit (.int .u8 62), .lit (.int .u8 47), .lit (.int .u8 59), .lit (.int .u8 36), .lit (.int .u8 45), .lit (.int .u8 43), .lit (.int .u8 51), .lit (.int .u8 22), .lit (.int .u8 53), .lit (.int .u8 39), .lit (.int .u8 33), .lit (.int .u8 30), .lit (.int .u8 24), .lit (.int .u8 18), .lit (.int .u8 12), .lit (.int .u8 5), .lit (.int .u8 63), .lit (.int .u8 55), .lit (.int .u8 48), .lit (.int .u8 27), .lit (.int .u8 60), .lit (.int .u8 41), .lit (.int .u8 37), .lit (.int .u8 16), .lit (.int .u8 46), .lit (.int .u8 35), .lit (.int .u8 44), .lit (.int .u8 21), .lit (.int .u8 52), .lit (.int .u8 32), .lit (.int .u8 23), .lit (.int .u8 11), .lit (.int .u8 54), .lit (.int .u8 26), .lit (.int .u8 40), .lit (.int .u8 15), .lit (.int .u8 34), .lit (.int .u8 20), .lit (.int .u8 31), .lit (.int .u8 10), .lit (.int .u8 25), .lit (.int .u8 14), .lit (.int .u8 19), .lit (.int .u8 9), .lit (.int .u8 13), .lit (.int .u8 8), .lit (.int .u8 7), .lit (.int .u8 6)]
def laid_internal_strconv_uint64pow10 {H : Type} : DataW H := .agg [.lit (.int .u64 1), .lit (.int .u64 10), .lit (.int .u64 100), .lit (.int .u64 1000), .lit (.int .u64 10000), .lit (.int .u64 100000), .lit (.int .u64 1000000), .lit (.int .u64 10000000), .lit (.int .u64 100000000), .lit (.int .u64 1000000000), .lit (.int .u64 10000000000), .lit (.int .u64 100000000000), .lit (.int .u64 1000000000000), .lit (.int .u64 10000000000000), .lit (.int .u64 100000000000000), .lit (.int .u64 1000000000000000), .lit (.int .u64 10000000000000000), .lit (.int .u64 100000000000000000), .lit (.int .u64 1000000000000000000), .lit (.int .u64 10000000000000000000)]
def laid_custody_parse_flags {H : Type} : DataW H := .slice [.lit (.string [103, 101, 110, 101, 114, 97, 116, 101]), .lit (.string [105, 109, 112, 111, 114, 116]), .lit (.string [101, 120, 112, 111, 114, 116]), .lit (.string [101, 110, 99, 114, 121, 112, 116]), .lit (.string [100, 101, 99, 114, 121, 112, 116]), .lit (.string [109, 97, 99]), .lit (.string [112, 114, 111, 116, 101, 99, 116, 101, 100])] []
def laid_custody_parse_rules {H : Type} : DataW H := .slice [.lit (.string [119, 114, 97, 112]), .lit (.string [117, 110, 119, 114, 97, 112]), .lit (.string [114, 97, 119, 45, 119, 114, 97, 112]), .lit (.string [114, 97, 119, 45, 117, 110, 119, 114, 97, 112]), .lit (.string [100, 101, 114, 105, 118, 101])] []
def laid_custody_parse_commands {H : Type} : DataW H := .slice [.lit (.string [103, 101, 110, 101, 114, 97, 116, 101]), .lit (.string [105, 109, 112, 111, 114, 116]), .lit (.string [101, 120, 112, 111, 114, 116]), .lit (.string [101, 110, 99, 114, 121, 112, 116]), .lit (.string [100, 101, 99, 114, 121, 112, 116]), .lit (.string [109, 97, 99]), .lit (.string [119, 114, 97, 112]), .lit (.string [117, 110, 119, 114, 97, 112]), .lit (.string [114, 97, 119, 45, 119, 114, 97, 112]), .lit (.string [114, 97, 119, 45, 117, 110, 119, 114, 97, 112]), .lit (.string [100, 101, 114, 105, 118, 101]), .lit (.string [100, 101, 115, 116, 114, 111, 121]), .lit (.string [114, 111, 116, 97, 116, 101]), .lit (.string [98, 97, 99, 107, 117, 112]), .lit (.string [114, 101, 115, 116, 111, 114, 101]), .lit (.string [114, 101, 110, 101, 119]), .lit (.string [114, 101, 112, 108, 97, 99, 101]), .lit (.string [115, 112, 108, 105, 116]), .lit (.string [109, 101, 114, 103, 101]), .lit (.string [117, 110, 108, 111, 99, 107]), .lit (.string [114, 101, 107, 101, 121]), .lit (.string [100, 101, 99, 111, 109, 109, 105, 115, 115, 105, 111, 110]), .lit (.string [112, 114, 111, 112, 111, 115, 101]), .lit (.string [97, 112, 112, 114, 111, 118, 101]), .lit (.string [119, 105, 116, 104, 100, 114, 97, 119]), .lit (.string [104, 101, 97, 100]), .lit (.string [112, 105, 101, 99, 101])] []

/-- 'custodylaw11.LexTokensMatchSpec': WHATEVER THE INPUT: true; the input reads as it did. -/
def lexTokensMatchSpecSpec : ChangeSpec := { name := "lexTokensMatchSpec", fn := fun _ => fun
  | [d] => { results := [.lit (.bool true)], args := [d] }
  | _ => none }
def lexTokensMatchSpecRow : OpenClaim := { program := "ytecldgjdmomilaadoor", sum := "50fe536d50e6b69550f8792e785dd2f7442bd72be3857cfd82d5276ed410d1fb", func := "custody/custodylaw11.LexTokensMatchSpec", spec := "lexTokensMatchSpec", inPlace := ["internal/bytealg.IndexByteString", "internal/bytealg.CountString", "internal/bytealg.IndexString", "internal/abi.NoEscape", "internal/bytealg.MakeNoZero"], unfollowed := true, recurses := true, named := ["custody/lex.units", "internal/bytealg.MaxLen"], apart := false, laid := [("custody/lex.units", laid_custody_lex_units)] }
def LexTokensMatchSpecSaid : Prop := lexTokensMatchSpecRow.holds Tryd.pinned (OpenSpec.ofChange lexTokensMatchSpecSpec)

/-- ITS FALSE NEIGHBOUR: 'it returns false'. Refute it at one input. -/
def lexTokensMatchSpecWrong : ChangeSpec := { name := "lexTokensMatchSpec", fn := fun _ => fun
  | [d] => { results := [.lit (.bool false)], args := [d] }
  | _ => none }
def LexTokensMatchSpecWrongFalsely : Prop := lexTokensMatchSpecRow.holds Tryd.pinned (OpenSpec.ofChange lexTokensMatchSpecWrong)

/-- 'custodylaw11.LexSpotMatchesSpec': WHATEVER THE INPUT: true; the input reads as it did. -/
def lexSpotMatchesSpecSpec : ChangeSpec := { name := "lexSpotMatchesSpec", fn := fun _ => fun
  | [d1, d2] => { results := [.lit (.bool true)], args := [d1, d2] }
  | _ => none }
def lexSpotMatchesSpecRow : OpenClaim := { program := "ytecldgjdmomilaadoor", sum := "50fe536d50e6b69550f8792e785dd2f7442bd72be3857cfd82d5276ed410d1fb", func := "custody/custodylaw11.LexSpotMatchesSpec", spec := "lexSpotMatchesSpec", inPlace := ["internal/bytealg.IndexByteString", "internal/bytealg.CountString", "internal/bytealg.IndexString", "internal/abi.NoEscape", "internal/bytealg.MakeNoZero"], unfollowed := true, recurses := true, named := ["custody/lex.units", "internal/bytealg.MaxLen"], apart := false, laid := [("custody/lex.units", laid_custody_lex_units)] }
def LexSpotMatchesSpecSaid : Prop := lexSpotMatchesSpecRow.holds Tryd.pinned (OpenSpec.ofChange lexSpotMatchesSpecSpec)

/-- ITS FALSE NEIGHBOUR: 'it returns false'. Refute it at one input. -/
def lexSpotMatchesSpecWrong : ChangeSpec := { name := "lexSpotMatchesSpec", fn := fun _ => fun
  | [d1, d2] => { results := [.lit (.bool false)], args := [d1, d2] }
  | _ => none }
def LexSpotMatchesSpecWrongFalsely : Prop := lexSpotMatchesSpecRow.holds Tryd.pinned (OpenSpec.ofChange lexSpotMatchesSpecWrong)

/-- 'custodylaw11.LexJoinMatchesSpec': WHATEVER THE INPUT: true; the input reads as it did. -/
def lexJoinMatchesSpecSpec : ChangeSpec := { name := "lexJoinMatchesSpec", fn := fun _ => fun
  | [d] => { results := [.lit (.bool true)], args := [d] }
  | _ => none }
def lexJoinMatchesSpecRow : OpenClaim := { program := "ytecldgjdmomilaadoor", sum := "50fe536d50e6b69550f8792e785dd2f7442bd72be3857cfd82d5276ed410d1fb", func := "custody/custodylaw11.LexJoinMatchesSpec", spec := "lexJoinMatchesSpec", inPlace := ["internal/bytealg.IndexByteString", "internal/bytealg.CountString", "internal/bytealg.IndexString", "internal/abi.NoEscape", "internal/bytealg.MakeNoZero"], unfollowed := true, recurses := true, named := ["custody/lex.units", "internal/bytealg.MaxLen"], apart := false, laid := [("custody/lex.units", laid_custody_lex_units)] }
def LexJoinMatchesSpecSaid : Prop := lexJoinMatchesSpecRow.holds Tryd.pinned (OpenSpec.ofChange lexJoinMatchesSpecSpec)

/-- ITS FALSE NEIGHBOUR: 'it returns false'. Refute it at one input. -/
def lexJoinMatchesSpecWrong : ChangeSpec := { name := "lexJoinMatchesSpec", fn := fun _ => fun
  | [d] => { results := [.lit (.bool false)], args := [d] }
  | _ => none }
def LexJoinMatchesSpecWrongFalsely : Prop := lexJoinMatchesSpecRow.holds Tryd.pinned (OpenSpec.ofChange lexJoinMatchesSpecWrong)

/-- 'custodylaw11.LexTokensLieInText': WHATEVER THE INPUT: true; the input reads as it did. -/
def lexTokensLieInTextSpec : ChangeSpec := { name := "lexTokensLieInText", fn := fun _ => fun
  | [d] => { results := [.lit (.bool true)], args := [d] }
  | _ => none }
def lexTokensLieInTextRow : OpenClaim := { program := "ytecldgjdmomilaadoor", sum := "50fe536d50e6b69550f8792e785dd2f7442bd72be3857cfd82d5276ed410d1fb", func := "custody/custodylaw11.LexTokensLieInText", spec := "lexTokensLieInText", inPlace := ["internal/bytealg.IndexByteString", "internal/bytealg.CountString", "internal/bytealg.IndexString", "internal/abi.NoEscape", "internal/bytealg.MakeNoZero"], unfollowed := true, recurses := true, named := ["custody/lex.units", "internal/bytealg.MaxLen"], apart := false, laid := [("custody/lex.units", laid_custody_lex_units)] }
def LexTokensLieInTextSaid : Prop := lexTokensLieInTextRow.holds Tryd.pinned (OpenSpec.ofChange lexTokensLieInTextSpec)

/-- ITS FALSE NEIGHBOUR: 'it returns false'. Refute it at one input. -/
def lexTokensLieInTextWrong : ChangeSpec := { name := "lexTokensLieInText", fn := fun _ => fun
  | [d] => { results := [.lit (.bool false)], args := [d] }
  | _ => none }
def LexTokensLieInTextWrongFalsely : Prop := lexTokensLieInTextRow.holds Tryd.pinned (OpenSpec.ofChange lexTokensLieInTextWrong)

/-- 'custodylaw11.LexJoinKeepsTokens': WHATEVER THE INPUT: true; the input reads as it did. -/
def lexJoinKeepsTokensSpec : ChangeSpec := { name := "lexJoinKeepsTokens", fn := fun _ => fun
  | [d] => { results := [.lit (.bool true)], args := [d] }
  | _ => none }
def lexJoinKeepsTokensRow : OpenClaim := { program := "ytecldgjdmomilaadoor", sum := "50fe536d50e6b69550f8792e785dd2f7442bd72be3857cfd82d5276ed410d1fb", func := "custody/custodylaw11.LexJoinKeepsTokens", spec := "lexJoinKeepsTokens", inPlace := ["internal/bytealg.IndexByteString", "internal/bytealg.CountString", "internal/bytealg.IndexString", "internal/abi.NoEscape", "internal/bytealg.MakeNoZero"], unfollowed := true, recurses := true, named := ["custody/lex.units", "internal/bytealg.MaxLen"], apart := false, laid := [("custody/lex.units", laid_custody_lex_units)] }
def LexJoinKeepsTokensSaid : Prop := lexJoinKeepsTokensRow.holds Tryd.pinned (OpenSpec.ofChange lexJoinKeepsTokensSpec)

/-- ITS FALSE NEIGHBOUR: 'it returns false'. Refute it at one input. -/
def lexJoinKeepsTokensWrong : ChangeSpec := { name := "lexJoinKeepsTokens", fn := fun _ => fun
  | [d] => { results := [.lit (.bool false)], args := [d] }
  | _ => none }
def LexJoinKeepsTokensWrongFalsely : Prop := lexJoinKeepsTokensRow.holds Tryd.pinned (OpenSpec.ofChange lexJoinKeepsTokensWrong)

/-- 'custodylaw11.LexGapsDoNotMatter': WHATEVER THE INPUT: true; the input reads as it did. -/
def lexGapsDoNotMatterSpec : ChangeSpec := { name := "lexGapsDoNotMatter", fn := fun _ => fun
  | [d1, d2, d3] => { results := [.lit (.bool true)], args := [d1, d2, d3] }
  | _ => none }
def lexGapsDoNotMatterRow : OpenClaim := { program := "ytecldgjdmomilaadoor", sum := "50fe536d50e6b69550f8792e785dd2f7442bd72be3857cfd82d5276ed410d1fb", func := "custody/custodylaw11.LexGapsDoNotMatter", spec := "lexGapsDoNotMatter", inPlace := ["internal/bytealg.IndexByteString", "internal/bytealg.CountString", "internal/bytealg.IndexString", "internal/abi.NoEscape", "internal/bytealg.MakeNoZero"], unfollowed := true, recurses := true, named := ["custody/lex.units", "internal/bytealg.MaxLen"], apart := false, laid := [("custody/lex.units", laid_custody_lex_units)] }
def LexGapsDoNotMatterSaid : Prop := lexGapsDoNotMatterRow.holds Tryd.pinned (OpenSpec.ofChange lexGapsDoNotMatterSpec)

/-- ITS FALSE NEIGHBOUR: 'it returns false'. Refute it at one input. -/
def lexGapsDoNotMatterWrong : ChangeSpec := { name := "lexGapsDoNotMatter", fn := fun _ => fun
  | [d1, d2, d3] => { results := [.lit (.bool false)], args := [d1, d2, d3] }
  | _ => none }
def LexGapsDoNotMatterWrongFalsely : Prop := lexGapsDoNotMatterRow.holds Tryd.pinned (OpenSpec.ofChange lexGapsDoNotMatterWrong)

/-- 'custodylaw12.ParseMatchesSpec': WHATEVER THE INPUT: true; the input reads as it did. -/
def parseMatchesSpecSpec : ChangeSpec := { name := "parseMatchesSpec", fn := fun _ => fun
  | [d] => { results := [.lit (.bool true)], args := [d] }
  | _ => none }
def parseMatchesSpecRow : OpenClaim := { program := "ytecldgjdmomilaadoor", sum := "50fe536d50e6b69550f8792e785dd2f7442bd72be3857cfd82d5276ed410d1fb", func := "custody/custodylaw12.ParseMatchesSpec", spec := "parseMatchesSpec", inPlace := ["internal/bytealg.IndexByteString", "internal/abi.NoEscape"], unfollowed := true, recurses := true, named := ["custody/lex.units", "custody/parse.rules", "custody/parse.flags", "custody/parse.commands", "internal/strconv.uint64pow10", "math/bits.deBruijn32tab", "math/bits.deBruijn64tab"], apart := false, laid := [("math/bits.deBruijn32tab", laid_math_bits_deBruijn32tab), ("math/bits.deBruijn64tab", laid_math_bits_deBruijn64tab), ("internal/strconv.uint64pow10", laid_internal_strconv_uint64pow10), ("custody/lex.units", laid_custody_lex_units), ("custody/parse.flags", laid_custody_parse_flags), ("custody/parse.rules", laid_custody_parse_rules), ("custody/parse.commands", laid_custody_parse_commands)] }
def ParseMatchesSpecSaid : Prop := parseMatchesSpecRow.holds Tryd.pinned (OpenSpec.ofChange parseMatchesSpecSpec)

/-- ITS FALSE NEIGHBOUR: 'it returns false'. Refute it at one input. -/
def parseMatchesSpecWrong : ChangeSpec := { name := "parseMatchesSpec", fn := fun _ => fun
  | [d] => { results := [.lit (.bool false)], args := [d] }
  | _ => none }
def ParseMatchesSpecWrongFalsely : Prop := parseMatchesSpecRow.holds Tryd.pinned (OpenSpec.ofChange parseMatchesSpecWrong)

/-- 'custodylaw12.ParsePrintsAsSpecified': WHATEVER THE INPUT: true; the input reads as it did. -/
def parsePrintsAsSpecifiedSpec : ChangeSpec := { name := "parsePrintsAsSpecified", fn := fun _ => fun
  | [d1, d2, d3] => { results := [.lit (.bool true)], args := [d1, d2, d3] }
  | _ => none }
def parsePrintsAsSpecifiedRow : OpenClaim := { program := "ytecldgjdmomilaadoor", sum := "50fe536d50e6b69550f8792e785dd2f7442bd72be3857cfd82d5276ed410d1fb", func := "custody/custodylaw12.ParsePrintsAsSpecified", spec := "parsePrintsAsSpecified", inPlace := ["internal/bytealg.IndexByteString", "internal/abi.NoEscape"], unfollowed := true, recurses := true, named := ["custody/lex.units", "custody/parse.rules", "custody/parse.flags", "custody/parse.commands", "internal/strconv.uint64pow10", "math/bits.deBruijn32tab", "math/bits.deBruijn64tab"], apart := false, laid := [("math/bits.deBruijn32tab", laid_math_bits_deBruijn32tab), ("math/bits.deBruijn64tab", laid_math_bits_deBruijn64tab), ("internal/strconv.uint64pow10", laid_internal_strconv_uint64pow10), ("custody/lex.units", laid_custody_lex_units), ("custody/parse.flags", laid_custody_parse_flags), ("custody/parse.rules", laid_custody_parse_rules), ("custody/parse.commands", laid_custody_parse_commands)] }
def ParsePrintsAsSpecifiedSaid : Prop := parsePrintsAsSpecifiedRow.holds Tryd.pinned (OpenSpec.ofChange parsePrintsAsSpecifiedSpec)

/-- ITS FALSE NEIGHBOUR: 'it returns false'. Refute it at one input. -/
def parsePrintsAsSpecifiedWrong : ChangeSpec := { name := "parsePrintsAsSpecified", fn := fun _ => fun
  | [d1, d2, d3] => { results := [.lit (.bool false)], args := [d1, d2, d3] }
  | _ => none }
def ParsePrintsAsSpecifiedWrongFalsely : Prop := parsePrintsAsSpecifiedRow.holds Tryd.pinned (OpenSpec.ofChange parsePrintsAsSpecifiedWrong)

/-- 'custodylaw12.ParseRoundTrip': WHATEVER THE INPUT: true; the input reads as it did. -/
def parseRoundTripSpec : ChangeSpec := { name := "parseRoundTrip", fn := fun _ => fun
  | [d] => { results := [.lit (.bool true)], args := [d] }
  | _ => none }
def parseRoundTripRow : OpenClaim := { program := "ytecldgjdmomilaadoor", sum := "50fe536d50e6b69550f8792e785dd2f7442bd72be3857cfd82d5276ed410d1fb", func := "custody/custodylaw12.ParseRoundTrip", spec := "parseRoundTrip", inPlace := ["internal/bytealg.IndexByteString", "internal/abi.NoEscape"], unfollowed := true, recurses := true, named := ["custody/lex.units", "custody/parse.rules", "custody/parse.flags", "custody/parse.commands", "internal/strconv.uint64pow10", "math/bits.deBruijn32tab", "math/bits.deBruijn64tab"], apart := false, laid := [("math/bits.deBruijn32tab", laid_math_bits_deBruijn32tab), ("math/bits.deBruijn64tab", laid_math_bits_deBruijn64tab), ("internal/strconv.uint64pow10", laid_internal_strconv_uint64pow10), ("custody/lex.units", laid_custody_lex_units), ("custody/parse.flags", laid_custody_parse_flags), ("custody/parse.rules", laid_custody_parse_rules), ("custody/parse.commands", laid_custody_parse_commands)] }
def ParseRoundTripSaid : Prop := parseRoundTripRow.holds Tryd.pinned (OpenSpec.ofChange parseRoundTripSpec)

/-- ITS FALSE NEIGHBOUR: 'it returns false'. Refute it at one input. -/
def parseRoundTripWrong : ChangeSpec := { name := "parseRoundTrip", fn := fun _ => fun
  | [d] => { results := [.lit (.bool false)], args := [d] }
  | _ => none }
def ParseRoundTripWrongFalsely : Prop := parseRoundTripRow.holds Tryd.pinned (OpenSpec.ofChange parseRoundTripWrong)

/-- 'custodylaw12.ParseCanonical': WHATEVER THE INPUT: true; the input reads as it did. -/
def parseCanonicalSpec : ChangeSpec := { name := "parseCanonical", fn := fun _ => fun
  | [d] => { results := [.lit (.bool true)], args := [d] }
  | _ => none }
def parseCanonicalRow : OpenClaim := { program := "ytecldgjdmomilaadoor", sum := "50fe536d50e6b69550f8792e785dd2f7442bd72be3857cfd82d5276ed410d1fb", func := "custody/custodylaw12.ParseCanonical", spec := "parseCanonical", inPlace := ["internal/bytealg.IndexByteString", "internal/abi.NoEscape"], unfollowed := true, recurses := true, named := ["custody/lex.units", "custody/parse.rules", "custody/parse.flags", "custody/parse.commands", "internal/strconv.uint64pow10", "math/bits.deBruijn32tab", "math/bits.deBruijn64tab"], apart := false, laid := [("math/bits.deBruijn32tab", laid_math_bits_deBruijn32tab), ("math/bits.deBruijn64tab", laid_math_bits_deBruijn64tab), ("internal/strconv.uint64pow10", laid_internal_strconv_uint64pow10), ("custody/lex.units", laid_custody_lex_units), ("custody/parse.flags", laid_custody_parse_flags), ("custody/parse.rules", laid_custody_parse_rules), ("custody/parse.commands", laid_custody_parse_commands)] }
def ParseCanonicalSaid : Prop := parseCanonicalRow.holds Tryd.pinned (OpenSpec.ofChange parseCanonicalSpec)

/-- ITS FALSE NEIGHBOUR: 'it returns false'. Refute it at one input. -/
def parseCanonicalWrong : ChangeSpec := { name := "parseCanonical", fn := fun _ => fun
  | [d] => { results := [.lit (.bool false)], args := [d] }
  | _ => none }
def ParseCanonicalWrongFalsely : Prop := parseCanonicalRow.holds Tryd.pinned (OpenSpec.ofChange parseCanonicalWrong)

/-- 'custodylaw12.ParseIgnoresSpace': WHATEVER THE INPUT: true; the input reads as it did. -/
def parseIgnoresSpaceSpec : ChangeSpec := { name := "parseIgnoresSpace", fn := fun _ => fun
  | [d1, d2] => { results := [.lit (.bool true)], args := [d1, d2] }
  | _ => none }
def parseIgnoresSpaceRow : OpenClaim := { program := "ytecldgjdmomilaadoor", sum := "50fe536d50e6b69550f8792e785dd2f7442bd72be3857cfd82d5276ed410d1fb", func := "custody/custodylaw12.ParseIgnoresSpace", spec := "parseIgnoresSpace", inPlace := ["internal/bytealg.IndexByteString", "internal/abi.NoEscape"], unfollowed := true, recurses := true, named := ["custody/lex.units", "custody/parse.rules", "custody/parse.flags", "custody/parse.commands", "internal/strconv.uint64pow10", "math/bits.deBruijn32tab", "math/bits.deBruijn64tab"], apart := false, laid := [("math/bits.deBruijn32tab", laid_math_bits_deBruijn32tab), ("math/bits.deBruijn64tab", laid_math_bits_deBruijn64tab), ("internal/strconv.uint64pow10", laid_internal_strconv_uint64pow10), ("custody/lex.units", laid_custody_lex_units), ("custody/parse.flags", laid_custody_parse_flags), ("custody/parse.rules", laid_custody_parse_rules), ("custody/parse.commands", laid_custody_parse_commands)] }
def ParseIgnoresSpaceSaid : Prop := parseIgnoresSpaceRow.holds Tryd.pinned (OpenSpec.ofChange parseIgnoresSpaceSpec)

/-- ITS FALSE NEIGHBOUR: 'it returns false'. Refute it at one input. -/
def parseIgnoresSpaceWrong : ChangeSpec := { name := "parseIgnoresSpace", fn := fun _ => fun
  | [d1, d2] => { results := [.lit (.bool false)], args := [d1, d2] }
  | _ => none }
def ParseIgnoresSpaceWrongFalsely : Prop := parseIgnoresSpaceRow.holds Tryd.pinned (OpenSpec.ofChange parseIgnoresSpaceWrong)

/-- 'custodylaw12.ParseErrorsAreAtTokens': WHATEVER THE INPUT: true; the input reads as it did. -/
def parseErrorsAreAtTokensSpec : ChangeSpec := { name := "parseErrorsAreAtTokens", fn := fun _ => fun
  | [d1, d2] => { results := [.lit (.bool true)], args := [d1, d2] }
  | _ => none }
def parseErrorsAreAtTokensRow : OpenClaim := { program := "ytecldgjdmomilaadoor", sum := "50fe536d50e6b69550f8792e785dd2f7442bd72be3857cfd82d5276ed410d1fb", func := "custody/custodylaw12.ParseErrorsAreAtTokens", spec := "parseErrorsAreAtTokens", inPlace := ["internal/bytealg.IndexByteString", "internal/abi.NoEscape"], unfollowed := true, recurses := true, named := ["custody/lex.units", "custody/parse.rules", "custody/parse.flags", "custody/parse.commands", "internal/strconv.uint64pow10", "math/bits.deBruijn32tab", "math/bits.deBruijn64tab"], apart := false, laid := [("math/bits.deBruijn32tab", laid_math_bits_deBruijn32tab), ("math/bits.deBruijn64tab", laid_math_bits_deBruijn64tab), ("internal/strconv.uint64pow10", laid_internal_strconv_uint64pow10), ("custody/lex.units", laid_custody_lex_units), ("custody/parse.flags", laid_custody_parse_flags), ("custody/parse.rules", laid_custody_parse_rules), ("custody/parse.commands", laid_custody_parse_commands)] }
def ParseErrorsAreAtTokensSaid : Prop := parseErrorsAreAtTokensRow.holds Tryd.pinned (OpenSpec.ofChange parseErrorsAreAtTokensSpec)

/-- ITS FALSE NEIGHBOUR: 'it returns false'. Refute it at one input. -/
def parseErrorsAreAtTokensWrong : ChangeSpec := { name := "parseErrorsAreAtTokens", fn := fun _ => fun
  | [d1, d2] => { results := [.lit (.bool false)], args := [d1, d2] }
  | _ => none }
def ParseErrorsAreAtTokensWrongFalsely : Prop := parseErrorsAreAtTokensRow.holds Tryd.pinned (OpenSpec.ofChange parseErrorsAreAtTokensWrong)

/- THE SECOND FORM. 'bulk': how many values and letters a reading holds, each counted each time it is reached (what is shared counts as often as it is met; a slice's spare places count too). A statement '..UptoSaid' is the law's where the arguments, and the package variables that the reading takes, are together of bulk at most 1048576: NARROWER than '..Said'. Prove '..Said' where nothing that the law and all that it calls make is longer than what came in: it says more and counts as full. Else prove '..UptoSaid'. A law counts once. -/
mutual
def uptoBulk {H : Type} : DataW H → Nat
  | .lit (.string bytes) => bytes.length + 1
  | .lit _ => 1
  | .nil => 1
  | .ptr d => uptoBulk d + 1
  | .slice elems spare => uptoBulkAll elems + uptoBulkAll spare + 1
  | .agg parts => uptoBulkAll parts + 1
  | .iface _ d => uptoBulk d + 1
  | .map entries => uptoBulkEntries entries + 1
  | .held _ => 1
def uptoBulkAll {H : Type} : List (DataW H) → Nat
  | [] => 0
  | d :: r => uptoBulk d + uptoBulkAll r
def uptoBulkEntries {H : Type} : List (Lit × DataW H) → Nat
  | [] => 0
  | x :: r => uptoBulkEntry x + uptoBulkEntries r
def uptoBulkEntry {H : Type} : Lit × DataW H → Nat
  | (.string bytes, d) => bytes.length + uptoBulk d + 1
  | (_, d) => uptoBulk d + 1
 end
def uptoSmall : (H : Type) → List (DataW H) → Bool := fun _ ds => decide (uptoBulkAll ds ≤ 1048576)
def OpenSpec.upto (s : _root_.Go.ChangeSpec) : _root_.Go.OpenSpec := { _root_.Go.OpenSpec.ofChange s with cond := some uptoSmall }

/-- 'custodylaw11.LexTokensMatchSpec', WHERE WHAT IT READS IS OF BULK AT MOST 1048576: true; the input reads as it did. -/
def lexTokensMatchSpecUptoRow : OpenClaim := { program := "ytecldgjdmomilaadoor", sum := "50fe536d50e6b69550f8792e785dd2f7442bd72be3857cfd82d5276ed410d1fb", func := "custody/custodylaw11.LexTokensMatchSpec", spec := "lexTokensMatchSpec", inPlace := ["internal/bytealg.IndexByteString", "internal/bytealg.CountString", "internal/bytealg.IndexString", "internal/abi.NoEscape", "internal/bytealg.MakeNoZero"], unfollowed := true, recurses := true, named := ["custody/lex.units", "internal/bytealg.MaxLen"], apart := false, laid := [("custody/lex.units", laid_custody_lex_units)], narrowed := true }
def LexTokensMatchSpecUptoSaid : Prop := lexTokensMatchSpecUptoRow.holds Tryd.pinned (OpenSpec.upto lexTokensMatchSpecSpec)

/-- 'custodylaw11.LexSpotMatchesSpec', WHERE WHAT IT READS IS OF BULK AT MOST 1048576: true; the input reads as it did. -/
def lexSpotMatchesSpecUptoRow : OpenClaim := { program := "ytecldgjdmomilaadoor", sum := "50fe536d50e6b69550f8792e785dd2f7442bd72be3857cfd82d5276ed410d1fb", func := "custody/custodylaw11.LexSpotMatchesSpec", spec := "lexSpotMatchesSpec", inPlace := ["internal/bytealg.IndexByteString", "internal/bytealg.CountString", "internal/bytealg.IndexString", "internal/abi.NoEscape", "internal/bytealg.MakeNoZero"], unfollowed := true, recurses := true, named := ["custody/lex.units", "internal/bytealg.MaxLen"], apart := false, laid := [("custody/lex.units", laid_custody_lex_units)], narrowed := true }
def LexSpotMatchesSpecUptoSaid : Prop := lexSpotMatchesSpecUptoRow.holds Tryd.pinned (OpenSpec.upto lexSpotMatchesSpecSpec)

/-- 'custodylaw11.LexJoinMatchesSpec', WHERE WHAT IT READS IS OF BULK AT MOST 1048576: true; the input reads as it did. -/
def lexJoinMatchesSpecUptoRow : OpenClaim := { program := "ytecldgjdmomilaadoor", sum := "50fe536d50e6b69550f8792e785dd2f7442bd72be3857cfd82d5276ed410d1fb", func := "custody/custodylaw11.LexJoinMatchesSpec", spec := "lexJoinMatchesSpec", inPlace := ["internal/bytealg.IndexByteString", "internal/bytealg.CountString", "internal/bytealg.IndexString", "internal/abi.NoEscape", "internal/bytealg.MakeNoZero"], unfollowed := true, recurses := true, named := ["custody/lex.units", "internal/bytealg.MaxLen"], apart := false, laid := [("custody/lex.units", laid_custody_lex_units)], narrowed := true }
def LexJoinMatchesSpecUptoSaid : Prop := lexJoinMatchesSpecUptoRow.holds Tryd.pinned (OpenSpec.upto lexJoinMatchesSpecSpec)

/-- 'custodylaw11.LexTokensLieInText', WHERE WHAT IT READS IS OF BULK AT MOST 1048576: true; the input reads as it did. -/
def lexTokensLieInTextUptoRow : OpenClaim := { program := "ytecldgjdmomilaadoor", sum := "50fe536d50e6b69550f8792e785dd2f7442bd72be3857cfd82d5276ed410d1fb", func := "custody/custodylaw11.LexTokensLieInText", spec := "lexTokensLieInText", inPlace := ["internal/bytealg.IndexByteString", "internal/bytealg.CountString", "internal/bytealg.IndexString", "internal/abi.NoEscape", "internal/bytealg.MakeNoZero"], unfollowed := true, recurses := true, named := ["custody/lex.units", "internal/bytealg.MaxLen"], apart := false, laid := [("custody/lex.units", laid_custody_lex_units)], narrowed := true }
def LexTokensLieInTextUptoSaid : Prop := lexTokensLieInTextUptoRow.holds Tryd.pinned (OpenSpec.upto lexTokensLieInTextSpec)

/-- 'custodylaw11.LexJoinKeepsTokens', WHERE WHAT IT READS IS OF BULK AT MOST 1048576: true; the input reads as it did. -/
def lexJoinKeepsTokensUptoRow : OpenClaim := { program := "ytecldgjdmomilaadoor", sum := "50fe536d50e6b69550f8792e785dd2f7442bd72be3857cfd82d5276ed410d1fb", func := "custody/custodylaw11.LexJoinKeepsTokens", spec := "lexJoinKeepsTokens", inPlace := ["internal/bytealg.IndexByteString", "internal/bytealg.CountString", "internal/bytealg.IndexString", "internal/abi.NoEscape", "internal/bytealg.MakeNoZero"], unfollowed := true, recurses := true, named := ["custody/lex.units", "internal/bytealg.MaxLen"], apart := false, laid := [("custody/lex.units", laid_custody_lex_units)], narrowed := true }
def LexJoinKeepsTokensUptoSaid : Prop := lexJoinKeepsTokensUptoRow.holds Tryd.pinned (OpenSpec.upto lexJoinKeepsTokensSpec)

/-- 'custodylaw11.LexGapsDoNotMatter', WHERE WHAT IT READS IS OF BULK AT MOST 1048576: true; the input reads as it did. -/
def lexGapsDoNotMatterUptoRow : OpenClaim := { program := "ytecldgjdmomilaadoor", sum := "50fe536d50e6b69550f8792e785dd2f7442bd72be3857cfd82d5276ed410d1fb", func := "custody/custodylaw11.LexGapsDoNotMatter", spec := "lexGapsDoNotMatter", inPlace := ["internal/bytealg.IndexByteString", "internal/bytealg.CountString", "internal/bytealg.IndexString", "internal/abi.NoEscape", "internal/bytealg.MakeNoZero"], unfollowed := true, recurses := true, named := ["custody/lex.units", "internal/bytealg.MaxLen"], apart := false, laid := [("custody/lex.units", laid_custody_lex_units)], narrowed := true }
def LexGapsDoNotMatterUptoSaid : Prop := lexGapsDoNotMatterUptoRow.holds Tryd.pinned (OpenSpec.upto lexGapsDoNotMatterSpec)

/-- 'custodylaw12.ParseMatchesSpec', WHERE WHAT IT READS IS OF BULK AT MOST 1048576: true; the input reads as it did. -/
def parseMatchesSpecUptoRow : OpenClaim := { program := "ytecldgjdmomilaadoor", sum := "50fe536d50e6b69550f8792e785dd2f7442bd72be3857cfd82d5276ed410d1fb", func := "custody/custodylaw12.ParseMatchesSpec", spec := "parseMatchesSpec", inPlace := ["internal/bytealg.IndexByteString", "internal/abi.NoEscape"], unfollowed := true, recurses := true, named := ["custody/lex.units", "custody/parse.rules", "custody/parse.flags", "custody/parse.commands", "internal/strconv.uint64pow10", "math/bits.deBruijn32tab", "math/bits.deBruijn64tab"], apart := false, laid := [("math/bits.deBruijn32tab", laid_math_bits_deBruijn32tab), ("math/bits.deBruijn64tab", laid_math_bits_deBruijn64tab), ("internal/strconv.uint64pow10", laid_internal_strconv_uint64pow10), ("custody/lex.units", laid_custody_lex_units), ("custody/parse.flags", laid_custody_parse_flags), ("custody/parse.rules", laid_custody_parse_rules), ("custody/parse.commands", laid_custody_parse_commands)], narrowed := true }
def ParseMatchesSpecUptoSaid : Prop := parseMatchesSpecUptoRow.holds Tryd.pinned (OpenSpec.upto parseMatchesSpecSpec)

/-- 'custodylaw12.ParsePrintsAsSpecified', WHERE WHAT IT READS IS OF BULK AT MOST 1048576: true; the input reads as it did. -/
def parsePrintsAsSpecifiedUptoRow : OpenClaim := { program := "ytecldgjdmomilaadoor", sum := "50fe536d50e6b69550f8792e785dd2f7442bd72be3857cfd82d5276ed410d1fb", func := "custody/custodylaw12.ParsePrintsAsSpecified", spec := "parsePrintsAsSpecified", inPlace := ["internal/bytealg.IndexByteString", "internal/abi.NoEscape"], unfollowed := true, recurses := true, named := ["custody/lex.units", "custody/parse.rules", "custody/parse.flags", "custody/parse.commands", "internal/strconv.uint64pow10", "math/bits.deBruijn32tab", "math/bits.deBruijn64tab"], apart := false, laid := [("math/bits.deBruijn32tab", laid_math_bits_deBruijn32tab), ("math/bits.deBruijn64tab", laid_math_bits_deBruijn64tab), ("internal/strconv.uint64pow10", laid_internal_strconv_uint64pow10), ("custody/lex.units", laid_custody_lex_units), ("custody/parse.flags", laid_custody_parse_flags), ("custody/parse.rules", laid_custody_parse_rules), ("custody/parse.commands", laid_custody_parse_commands)], narrowed := true }
def ParsePrintsAsSpecifiedUptoSaid : Prop := parsePrintsAsSpecifiedUptoRow.holds Tryd.pinned (OpenSpec.upto parsePrintsAsSpecifiedSpec)

/-- 'custodylaw12.ParseRoundTrip', WHERE WHAT IT READS IS OF BULK AT MOST 1048576: true; the input reads as it did. -/
def parseRoundTripUptoRow : OpenClaim := { program := "ytecldgjdmomilaadoor", sum := "50fe536d50e6b69550f8792e785dd2f7442bd72be3857cfd82d5276ed410d1fb", func := "custody/custodylaw12.ParseRoundTrip", spec := "parseRoundTrip", inPlace := ["internal/bytealg.IndexByteString", "internal/abi.NoEscape"], unfollowed := true, recurses := true, named := ["custody/lex.units", "custody/parse.rules", "custody/parse.flags", "custody/parse.commands", "internal/strconv.uint64pow10", "math/bits.deBruijn32tab", "math/bits.deBruijn64tab"], apart := false, laid := [("math/bits.deBruijn32tab", laid_math_bits_deBruijn32tab), ("math/bits.deBruijn64tab", laid_math_bits_deBruijn64tab), ("internal/strconv.uint64pow10", laid_internal_strconv_uint64pow10), ("custody/lex.units", laid_custody_lex_units), ("custody/parse.flags", laid_custody_parse_flags), ("custody/parse.rules", laid_custody_parse_rules), ("custody/parse.commands", laid_custody_parse_commands)], narrowed := true }
def ParseRoundTripUptoSaid : Prop := parseRoundTripUptoRow.holds Tryd.pinned (OpenSpec.upto parseRoundTripSpec)

/-- 'custodylaw12.ParseCanonical', WHERE WHAT IT READS IS OF BULK AT MOST 1048576: true; the input reads as it did. -/
def parseCanonicalUptoRow : OpenClaim := { program := "ytecldgjdmomilaadoor", sum := "50fe536d50e6b69550f8792e785dd2f7442bd72be3857cfd82d5276ed410d1fb", func := "custody/custodylaw12.ParseCanonical", spec := "parseCanonical", inPlace := ["internal/bytealg.IndexByteString", "internal/abi.NoEscape"], unfollowed := true, recurses := true, named := ["custody/lex.units", "custody/parse.rules", "custody/parse.flags", "custody/parse.commands", "internal/strconv.uint64pow10", "math/bits.deBruijn32tab", "math/bits.deBruijn64tab"], apart := false, laid := [("math/bits.deBruijn32tab", laid_math_bits_deBruijn32tab), ("math/bits.deBruijn64tab", laid_math_bits_deBruijn64tab), ("internal/strconv.uint64pow10", laid_internal_strconv_uint64pow10), ("custody/lex.units", laid_custody_lex_units), ("custody/parse.flags", laid_custody_parse_flags), ("custody/parse.rules", laid_custody_parse_rules), ("custody/parse.commands", laid_custody_parse_commands)], narrowed := true }
def ParseCanonicalUptoSaid : Prop := parseCanonicalUptoRow.holds Tryd.pinned (OpenSpec.upto parseCanonicalSpec)

/-- 'custodylaw12.ParseIgnoresSpace', WHERE WHAT IT READS IS OF BULK AT MOST 1048576: true; the input reads as it did. -/
def parseIgnoresSpaceUptoRow : OpenClaim := { program := "ytecldgjdmomilaadoor", sum := "50fe536d50e6b69550f8792e785dd2f7442bd72be3857cfd82d5276ed410d1fb", func := "custody/custodylaw12.ParseIgnoresSpace", spec := "parseIgnoresSpace", inPlace := ["internal/bytealg.IndexByteString", "internal/abi.NoEscape"], unfollowed := true, recurses := true, named := ["custody/lex.units", "custody/parse.rules", "custody/parse.flags", "custody/parse.commands", "internal/strconv.uint64pow10", "math/bits.deBruijn32tab", "math/bits.deBruijn64tab"], apart := false, laid := [("math/bits.deBruijn32tab", laid_math_bits_deBruijn32tab), ("math/bits.deBruijn64tab", laid_math_bits_deBruijn64tab), ("internal/strconv.uint64pow10", laid_internal_strconv_uint64pow10), ("custody/lex.units", laid_custody_lex_units), ("custody/parse.flags", laid_custody_parse_flags), ("custody/parse.rules", laid_custody_parse_rules), ("custody/parse.commands", laid_custody_parse_commands)], narrowed := true }
def ParseIgnoresSpaceUptoSaid : Prop := parseIgnoresSpaceUptoRow.holds Tryd.pinned (OpenSpec.upto parseIgnoresSpaceSpec)

/-- 'custodylaw12.ParseErrorsAreAtTokens', WHERE WHAT IT READS IS OF BULK AT MOST 1048576: true; the input reads as it did. -/
def parseErrorsAreAtTokensUptoRow : OpenClaim := { program := "ytecldgjdmomilaadoor", sum := "50fe536d50e6b69550f8792e785dd2f7442bd72be3857cfd82d5276ed410d1fb", func := "custody/custodylaw12.ParseErrorsAreAtTokens", spec := "parseErrorsAreAtTokens", inPlace := ["internal/bytealg.IndexByteString", "internal/abi.NoEscape"], unfollowed := true, recurses := true, named := ["custody/lex.units", "custody/parse.rules", "custody/parse.flags", "custody/parse.commands", "internal/strconv.uint64pow10", "math/bits.deBruijn32tab", "math/bits.deBruijn64tab"], apart := false, laid := [("math/bits.deBruijn32tab", laid_math_bits_deBruijn32tab), ("math/bits.deBruijn64tab", laid_math_bits_deBruijn64tab), ("internal/strconv.uint64pow10", laid_internal_strconv_uint64pow10), ("custody/lex.units", laid_custody_lex_units), ("custody/parse.flags", laid_custody_parse_flags), ("custody/parse.rules", laid_custody_parse_rules), ("custody/parse.commands", laid_custody_parse_commands)], narrowed := true }
def ParseErrorsAreAtTokensUptoSaid : Prop := parseErrorsAreAtTokensUptoRow.holds Tryd.pinned (OpenSpec.upto parseErrorsAreAtTokensSpec)

end Rows
end Go.Proofs.YtecldgjdmomilaaDoor
