/-
  DERIVED. GIVEN WITH THE SEED: THE CARDS: each row of YtecldgjdmomilaaDoorRows.lean that lists a variable, with what it lists TIED to the program's text (the seventh form; the later family's looks); each row that meets fmt, with fmt's text TOLD by the authors' own Lean function (tested against real Go, not proved from fmt's source: count such statements apart). THE CARD IS WHAT COUNTS. Prove the row's statement (the work); the ties are given (YtecldgjdmomilaaDoorTie.lean); close each card by the builder's one call (the guide's Derived/Test/ToyasCard.lean, 'card_holds'). Laid BY PROGRAM, IN A SANDBOX (cutbox-door.mjs). By AI agents, Wed Nov 11 2026. No macro, syntax, notation, axiom, sorry.
-/
import Derived.Test.YtecldgjdmomilaaDoorRows
import GoSem.ClaimSeven
namespace Go.Proofs.YtecldgjdmomilaaDoor
namespace Rows

/-- THE TIED CARD OF 'custodylaw11.LexTokensMatchSpec'. -/
def lexTokensMatchSpecCard : Claim7 := { stood := { row := lexTokensMatchSpecRow, standIns := [], harness := (true, "6c3024ea5fa2cb666cbf900a8db3b6a7d78641f99887cffc39e1afd76eae40ed"), looks := true }, kinds := [], alts := [], laidByText := true, laidKinds := [.data], laidTests := true, laidLooks := .later }
def LexTokensMatchSpecCardSaid : Prop := Claim7.holds Tryd.pinned (.plain (OpenSpec.ofChange lexTokensMatchSpecSpec)) lexTokensMatchSpecCard

/-- THE TIED CARD OF 'custodylaw11.LexSpotMatchesSpec'. -/
def lexSpotMatchesSpecCard : Claim7 := { stood := { row := lexSpotMatchesSpecRow, standIns := [], harness := (true, "6c3024ea5fa2cb666cbf900a8db3b6a7d78641f99887cffc39e1afd76eae40ed"), looks := true }, kinds := [], alts := [], laidByText := true, laidKinds := [.data], laidTests := true, laidLooks := .later }
def LexSpotMatchesSpecCardSaid : Prop := Claim7.holds Tryd.pinned (.plain (OpenSpec.ofChange lexSpotMatchesSpecSpec)) lexSpotMatchesSpecCard

/-- THE TIED CARD OF 'custodylaw11.LexJoinMatchesSpec'. -/
def lexJoinMatchesSpecCard : Claim7 := { stood := { row := lexJoinMatchesSpecRow, standIns := [], harness := (true, "6c3024ea5fa2cb666cbf900a8db3b6a7d78641f99887cffc39e1afd76eae40ed"), looks := true }, kinds := [], alts := [], laidByText := true, laidKinds := [.data], laidTests := true, laidLooks := .later }
def LexJoinMatchesSpecCardSaid : Prop := Claim7.holds Tryd.pinned (.plain (OpenSpec.ofChange lexJoinMatchesSpecSpec)) lexJoinMatchesSpecCard

/-- THE TIED CARD OF 'custodylaw11.LexTokensLieInText'. -/
def lexTokensLieInTextCard : Claim7 := { stood := { row := lexTokensLieInTextRow, standIns := [], harness := (true, "6c3024ea5fa2cb666cbf900a8db3b6a7d78641f99887cffc39e1afd76eae40ed"), looks := true }, kinds := [], alts := [], laidByText := true, laidKinds := [.data], laidTests := true, laidLooks := .later }
def LexTokensLieInTextCardSaid : Prop := Claim7.holds Tryd.pinned (.plain (OpenSpec.ofChange lexTokensLieInTextSpec)) lexTokensLieInTextCard

/-- THE TIED CARD OF 'custodylaw11.LexJoinKeepsTokens'. -/
def lexJoinKeepsTokensCard : Claim7 := { stood := { row := lexJoinKeepsTokensRow, standIns := [], harness := (true, "6c3024ea5fa2cb666cbf900a8db3b6a7d78641f99887cffc39e1afd76eae40ed"), looks := true }, kinds := [], alts := [], laidByText := true, laidKinds := [.data], laidTests := true, laidLooks := .later }
def LexJoinKeepsTokensCardSaid : Prop := Claim7.holds Tryd.pinned (.plain (OpenSpec.ofChange lexJoinKeepsTokensSpec)) lexJoinKeepsTokensCard

/-- THE TIED CARD OF 'custodylaw11.LexGapsDoNotMatter'. -/
def lexGapsDoNotMatterCard : Claim7 := { stood := { row := lexGapsDoNotMatterRow, standIns := [], harness := (true, "6c3024ea5fa2cb666cbf900a8db3b6a7d78641f99887cffc39e1afd76eae40ed"), looks := true }, kinds := [], alts := [], laidByText := true, laidKinds := [.data], laidTests := true, laidLooks := .later }
def LexGapsDoNotMatterCardSaid : Prop := Claim7.holds Tryd.pinned (.plain (OpenSpec.ofChange lexGapsDoNotMatterSpec)) lexGapsDoNotMatterCard

/-- THE TIED CARD OF 'custodylaw12.ParseMatchesSpec'. -/
def parseMatchesSpecCard : Claim7 := { stood := { row := parseMatchesSpecRow, standIns := [], harness := (true, "6c3024ea5fa2cb666cbf900a8db3b6a7d78641f99887cffc39e1afd76eae40ed"), looks := true }, kinds := [], alts := [], laidByText := true, laidKinds := [.data, .data, .data, .data, .widerDeep, .widerDeep, .widerDeep], laidTests := true, laidLooks := .later }
def ParseMatchesSpecCardSaid : Prop := Claim7.holds Tryd.pinned (.plain (OpenSpec.ofChange parseMatchesSpecSpec)) parseMatchesSpecCard

/-- THE TIED CARD OF 'custodylaw12.ParsePrintsAsSpecified'. -/
def parsePrintsAsSpecifiedCard : Claim7 := { stood := { row := parsePrintsAsSpecifiedRow, standIns := [], harness := (true, "6c3024ea5fa2cb666cbf900a8db3b6a7d78641f99887cffc39e1afd76eae40ed"), looks := true }, kinds := [], alts := [], laidByText := true, laidKinds := [.data, .data, .data, .data, .widerDeep, .widerDeep, .widerDeep], laidTests := true, laidLooks := .later }
def ParsePrintsAsSpecifiedCardSaid : Prop := Claim7.holds Tryd.pinned (.plain (OpenSpec.ofChange parsePrintsAsSpecifiedSpec)) parsePrintsAsSpecifiedCard

/-- THE TIED CARD OF 'custodylaw12.ParseRoundTrip'. -/
def parseRoundTripCard : Claim7 := { stood := { row := parseRoundTripRow, standIns := [], harness := (true, "6c3024ea5fa2cb666cbf900a8db3b6a7d78641f99887cffc39e1afd76eae40ed"), looks := true }, kinds := [], alts := [], laidByText := true, laidKinds := [.data, .data, .data, .data, .widerDeep, .widerDeep, .widerDeep], laidTests := true, laidLooks := .later }
def ParseRoundTripCardSaid : Prop := Claim7.holds Tryd.pinned (.plain (OpenSpec.ofChange parseRoundTripSpec)) parseRoundTripCard

/-- THE TIED CARD OF 'custodylaw12.ParseCanonical'. -/
def parseCanonicalCard : Claim7 := { stood := { row := parseCanonicalRow, standIns := [], harness := (true, "6c3024ea5fa2cb666cbf900a8db3b6a7d78641f99887cffc39e1afd76eae40ed"), looks := true }, kinds := [], alts := [], laidByText := true, laidKinds := [.data, .data, .data, .data, .widerDeep, .widerDeep, .widerDeep], laidTests := true, laidLooks := .later }
def ParseCanonicalCardSaid : Prop := Claim7.holds Tryd.pinned (.plain (OpenSpec.ofChange parseCanonicalSpec)) parseCanonicalCard

/-- THE TIED CARD OF 'custodylaw12.ParseIgnoresSpace'. -/
def parseIgnoresSpaceCard : Claim7 := { stood := { row := parseIgnoresSpaceRow, standIns := [], harness := (true, "6c3024ea5fa2cb666cbf900a8db3b6a7d78641f99887cffc39e1afd76eae40ed"), looks := true }, kinds := [], alts := [], laidByText := true, laidKinds := [.data, .data, .data, .data, .widerDeep, .widerDeep, .widerDeep], laidTests := true, laidLooks := .later }
def ParseIgnoresSpaceCardSaid : Prop := Claim7.holds Tryd.pinned (.plain (OpenSpec.ofChange parseIgnoresSpaceSpec)) parseIgnoresSpaceCard

/-- THE TIED CARD OF 'custodylaw12.ParseErrorsAreAtTokens'. -/
def parseErrorsAreAtTokensCard : Claim7 := { stood := { row := parseErrorsAreAtTokensRow, standIns := [], harness := (true, "6c3024ea5fa2cb666cbf900a8db3b6a7d78641f99887cffc39e1afd76eae40ed"), looks := true }, kinds := [], alts := [], laidByText := true, laidKinds := [.data, .data, .data, .data, .widerDeep, .widerDeep, .widerDeep], laidTests := true, laidLooks := .later }
def ParseErrorsAreAtTokensCardSaid : Prop := Claim7.holds Tryd.pinned (.plain (OpenSpec.ofChange parseErrorsAreAtTokensSpec)) parseErrorsAreAtTokensCard

/-- THE SECOND FORM's CARD OF 'custodylaw11.LexTokensMatchSpec'. -/
def lexTokensMatchSpecUptoCard : Claim7 := { stood := { row := lexTokensMatchSpecUptoRow, standIns := [], harness := (true, "6c3024ea5fa2cb666cbf900a8db3b6a7d78641f99887cffc39e1afd76eae40ed"), looks := true }, kinds := [], alts := [], laidByText := true, laidKinds := [.data], laidTests := true, laidLooks := .later }
def LexTokensMatchSpecUptoCardSaid : Prop := Claim7.holds Tryd.pinned (.plain (OpenSpec.upto lexTokensMatchSpecSpec)) lexTokensMatchSpecUptoCard

/-- THE SECOND FORM's CARD OF 'custodylaw11.LexSpotMatchesSpec'. -/
def lexSpotMatchesSpecUptoCard : Claim7 := { stood := { row := lexSpotMatchesSpecUptoRow, standIns := [], harness := (true, "6c3024ea5fa2cb666cbf900a8db3b6a7d78641f99887cffc39e1afd76eae40ed"), looks := true }, kinds := [], alts := [], laidByText := true, laidKinds := [.data], laidTests := true, laidLooks := .later }
def LexSpotMatchesSpecUptoCardSaid : Prop := Claim7.holds Tryd.pinned (.plain (OpenSpec.upto lexSpotMatchesSpecSpec)) lexSpotMatchesSpecUptoCard

/-- THE SECOND FORM's CARD OF 'custodylaw11.LexJoinMatchesSpec'. -/
def lexJoinMatchesSpecUptoCard : Claim7 := { stood := { row := lexJoinMatchesSpecUptoRow, standIns := [], harness := (true, "6c3024ea5fa2cb666cbf900a8db3b6a7d78641f99887cffc39e1afd76eae40ed"), looks := true }, kinds := [], alts := [], laidByText := true, laidKinds := [.data], laidTests := true, laidLooks := .later }
def LexJoinMatchesSpecUptoCardSaid : Prop := Claim7.holds Tryd.pinned (.plain (OpenSpec.upto lexJoinMatchesSpecSpec)) lexJoinMatchesSpecUptoCard

/-- THE SECOND FORM's CARD OF 'custodylaw11.LexTokensLieInText'. -/
def lexTokensLieInTextUptoCard : Claim7 := { stood := { row := lexTokensLieInTextUptoRow, standIns := [], harness := (true, "6c3024ea5fa2cb666cbf900a8db3b6a7d78641f99887cffc39e1afd76eae40ed"), looks := true }, kinds := [], alts := [], laidByText := true, laidKinds := [.data], laidTests := true, laidLooks := .later }
def LexTokensLieInTextUptoCardSaid : Prop := Claim7.holds Tryd.pinned (.plain (OpenSpec.upto lexTokensLieInTextSpec)) lexTokensLieInTextUptoCard

/-- THE SECOND FORM's CARD OF 'custodylaw11.LexJoinKeepsTokens'. -/
def lexJoinKeepsTokensUptoCard : Claim7 := { stood := { row := lexJoinKeepsTokensUptoRow, standIns := [], harness := (true, "6c3024ea5fa2cb666cbf900a8db3b6a7d78641f99887cffc39e1afd76eae40ed"), looks := true }, kinds := [], alts := [], laidByText := true, laidKinds := [.data], laidTests := true, laidLooks := .later }
def LexJoinKeepsTokensUptoCardSaid : Prop := Claim7.holds Tryd.pinned (.plain (OpenSpec.upto lexJoinKeepsTokensSpec)) lexJoinKeepsTokensUptoCard

/-- THE SECOND FORM's CARD OF 'custodylaw11.LexGapsDoNotMatter'. -/
def lexGapsDoNotMatterUptoCard : Claim7 := { stood := { row := lexGapsDoNotMatterUptoRow, standIns := [], harness := (true, "6c3024ea5fa2cb666cbf900a8db3b6a7d78641f99887cffc39e1afd76eae40ed"), looks := true }, kinds := [], alts := [], laidByText := true, laidKinds := [.data], laidTests := true, laidLooks := .later }
def LexGapsDoNotMatterUptoCardSaid : Prop := Claim7.holds Tryd.pinned (.plain (OpenSpec.upto lexGapsDoNotMatterSpec)) lexGapsDoNotMatterUptoCard

/-- THE SECOND FORM's CARD OF 'custodylaw12.ParseMatchesSpec'. -/
def parseMatchesSpecUptoCard : Claim7 := { stood := { row := parseMatchesSpecUptoRow, standIns := [], harness := (true, "6c3024ea5fa2cb666cbf900a8db3b6a7d78641f99887cffc39e1afd76eae40ed"), looks := true }, kinds := [], alts := [], laidByText := true, laidKinds := [.data, .data, .data, .data, .widerDeep, .widerDeep, .widerDeep], laidTests := true, laidLooks := .later }
def ParseMatchesSpecUptoCardSaid : Prop := Claim7.holds Tryd.pinned (.plain (OpenSpec.upto parseMatchesSpecSpec)) parseMatchesSpecUptoCard

/-- THE SECOND FORM's CARD OF 'custodylaw12.ParsePrintsAsSpecified'. -/
def parsePrintsAsSpecifiedUptoCard : Claim7 := { stood := { row := parsePrintsAsSpecifiedUptoRow, standIns := [], harness := (true, "6c3024ea5fa2cb666cbf900a8db3b6a7d78641f99887cffc39e1afd76eae40ed"), looks := true }, kinds := [], alts := [], laidByText := true, laidKinds := [.data, .data, .data, .data, .widerDeep, .widerDeep, .widerDeep], laidTests := true, laidLooks := .later }
def ParsePrintsAsSpecifiedUptoCardSaid : Prop := Claim7.holds Tryd.pinned (.plain (OpenSpec.upto parsePrintsAsSpecifiedSpec)) parsePrintsAsSpecifiedUptoCard

/-- THE SECOND FORM's CARD OF 'custodylaw12.ParseRoundTrip'. -/
def parseRoundTripUptoCard : Claim7 := { stood := { row := parseRoundTripUptoRow, standIns := [], harness := (true, "6c3024ea5fa2cb666cbf900a8db3b6a7d78641f99887cffc39e1afd76eae40ed"), looks := true }, kinds := [], alts := [], laidByText := true, laidKinds := [.data, .data, .data, .data, .widerDeep, .widerDeep, .widerDeep], laidTests := true, laidLooks := .later }
def ParseRoundTripUptoCardSaid : Prop := Claim7.holds Tryd.pinned (.plain (OpenSpec.upto parseRoundTripSpec)) parseRoundTripUptoCard

/-- THE SECOND FORM's CARD OF 'custodylaw12.ParseCanonical'. -/
def parseCanonicalUptoCard : Claim7 := { stood := { row := parseCanonicalUptoRow, standIns := [], harness := (true, "6c3024ea5fa2cb666cbf900a8db3b6a7d78641f99887cffc39e1afd76eae40ed"), looks := true }, kinds := [], alts := [], laidByText := true, laidKinds := [.data, .data, .data, .data, .widerDeep, .widerDeep, .widerDeep], laidTests := true, laidLooks := .later }
def ParseCanonicalUptoCardSaid : Prop := Claim7.holds Tryd.pinned (.plain (OpenSpec.upto parseCanonicalSpec)) parseCanonicalUptoCard

/-- THE SECOND FORM's CARD OF 'custodylaw12.ParseIgnoresSpace'. -/
def parseIgnoresSpaceUptoCard : Claim7 := { stood := { row := parseIgnoresSpaceUptoRow, standIns := [], harness := (true, "6c3024ea5fa2cb666cbf900a8db3b6a7d78641f99887cffc39e1afd76eae40ed"), looks := true }, kinds := [], alts := [], laidByText := true, laidKinds := [.data, .data, .data, .data, .widerDeep, .widerDeep, .widerDeep], laidTests := true, laidLooks := .later }
def ParseIgnoresSpaceUptoCardSaid : Prop := Claim7.holds Tryd.pinned (.plain (OpenSpec.upto parseIgnoresSpaceSpec)) parseIgnoresSpaceUptoCard

/-- THE SECOND FORM's CARD OF 'custodylaw12.ParseErrorsAreAtTokens'. -/
def parseErrorsAreAtTokensUptoCard : Claim7 := { stood := { row := parseErrorsAreAtTokensUptoRow, standIns := [], harness := (true, "6c3024ea5fa2cb666cbf900a8db3b6a7d78641f99887cffc39e1afd76eae40ed"), looks := true }, kinds := [], alts := [], laidByText := true, laidKinds := [.data, .data, .data, .data, .widerDeep, .widerDeep, .widerDeep], laidTests := true, laidLooks := .later }
def ParseErrorsAreAtTokensUptoCardSaid : Prop := Claim7.holds Tryd.pinned (.plain (OpenSpec.upto parseErrorsAreAtTokensSpec)) parseErrorsAreAtTokensUptoCard
end Rows
end Go.Proofs.YtecldgjdmomilaaDoor
