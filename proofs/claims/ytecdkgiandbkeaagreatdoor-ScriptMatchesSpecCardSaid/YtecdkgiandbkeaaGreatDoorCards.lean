/-
  DERIVED. GIVEN WITH THE SEED: THE CARDS: each row of YtecdkgiandbkeaaGreatDoorRows.lean that lists a variable, with what it lists TIED to the program's text (the seventh form; the later family's looks); each row that meets fmt, with fmt's text TOLD by the authors' own Lean function (tested against real Go, not proved from fmt's source: count such statements apart). THE CARD IS WHAT COUNTS. Prove the row's statement (the work); the ties are given (YtecdkgiandbkeaaGreatDoorTie.lean); close each card by the builder's one call (the guide's Derived/Test/ToyasCard.lean, 'card_holds'). Laid BY PROGRAM, IN A SANDBOX (cutbox-door.mjs). By AI agents, Wed Nov 11 2026. No macro, syntax, notation, axiom, sorry.
-/
import Derived.Test.YtecdkgiandbkeaaGreatDoorRows
import GoSem.ClaimSeven
namespace Go.Proofs.YtecdkgiandbkeaaGreatDoor
namespace Rows

/-- THE TIED CARD OF 'custodylaw46.ScriptCanonical'. -/
def scriptCanonicalCard : Claim7 := { stood := { row := scriptCanonicalRow, standIns := [], harness := (true, "fc26ae62e8d72869bf9f8de3b684dbc26107528aae1cc65a5e4c59184dfc4e5a"), looks := true }, kinds := [], alts := [], laidByText := true, laidKinds := [.data, .data, .data, .data, .sentinel, .sentinel, .widerDeep, .pinned], laidTests := true, laidLooks := .later }
def ScriptCanonicalCardSaid : Prop := Claim7.holds Tryz.pinned (.plain (OpenSpec.ofChange scriptCanonicalSpec)) scriptCanonicalCard

/-- THE TIED CARD OF 'custodylaw46.ScriptLines'. -/
def scriptLinesCard : Claim7 := { stood := { row := scriptLinesRow, standIns := [], harness := (true, "fc26ae62e8d72869bf9f8de3b684dbc26107528aae1cc65a5e4c59184dfc4e5a"), looks := true }, kinds := [], alts := [], laidByText := true, laidKinds := [.data, .data, .data, .data, .sentinel, .sentinel, .widerDeep, .pinned], laidTests := true, laidLooks := .later }
def ScriptLinesCardSaid : Prop := Claim7.holds Tryz.pinned (.plain (OpenSpec.ofChange scriptLinesSpec)) scriptLinesCard

/-- THE TIED CARD OF 'custodylaw46.ScriptMatchesSpec'. -/
def scriptMatchesSpecCard : Claim7 := { stood := { row := scriptMatchesSpecRow, standIns := [], harness := (true, "fc26ae62e8d72869bf9f8de3b684dbc26107528aae1cc65a5e4c59184dfc4e5a"), looks := true }, kinds := [], alts := [], laidByText := true, laidKinds := [.data, .data, .data, .data, .sentinel, .sentinel, .widerDeep, .pinned], laidTests := true, laidLooks := .later }
def ScriptMatchesSpecCardSaid : Prop := Claim7.holds Tryz.pinned (.plain (OpenSpec.ofChange scriptMatchesSpecSpec)) scriptMatchesSpecCard

/-- THE TIED CARD OF 'custodylaw46.ScriptParsesAsSpecified'. -/
def scriptParsesAsSpecifiedCard : Claim7 := { stood := { row := scriptParsesAsSpecifiedRow, standIns := [], harness := (true, "fc26ae62e8d72869bf9f8de3b684dbc26107528aae1cc65a5e4c59184dfc4e5a"), looks := true }, kinds := [], alts := [], laidByText := true, laidKinds := [.data, .data, .data, .data, .sentinel, .sentinel, .widerDeep, .pinned], laidTests := true, laidLooks := .later }
def ScriptParsesAsSpecifiedCardSaid : Prop := Claim7.holds Tryz.pinned (.plain (OpenSpec.ofChange scriptParsesAsSpecifiedSpec)) scriptParsesAsSpecifiedCard

/-- THE TIED CARD OF 'custodylaw46.ScriptRoundTrip'. -/
def scriptRoundTripCard : Claim7 := { stood := { row := scriptRoundTripRow, standIns := [], harness := (true, "fc26ae62e8d72869bf9f8de3b684dbc26107528aae1cc65a5e4c59184dfc4e5a"), looks := true }, kinds := [], alts := [], laidByText := true, laidKinds := [.data, .data, .data, .data, .sentinel, .sentinel, .widerDeep, .pinned], laidTests := true, laidLooks := .later }
def ScriptRoundTripCardSaid : Prop := Claim7.holds Tryz.pinned (.plain (OpenSpec.ofChange scriptRoundTripSpec)) scriptRoundTripCard

/-- THE TIED CARD OF 'custodylaw46.ScriptJoins'. -/
def scriptJoinsCard : Claim7 := { stood := { row := scriptJoinsRow, standIns := [], harness := (true, "fc26ae62e8d72869bf9f8de3b684dbc26107528aae1cc65a5e4c59184dfc4e5a"), looks := true }, kinds := [], alts := [], laidByText := true, laidKinds := [.data, .data, .data, .data, .sentinel, .sentinel, .widerDeep, .pinned], laidTests := true, laidLooks := .later }
def ScriptJoinsCardSaid : Prop := Claim7.holds Tryz.pinned (.plain (OpenSpec.ofChange scriptJoinsSpec)) scriptJoinsCard

/-- THE SECOND FORM's CARD OF 'custodylaw46.ScriptCanonical'. -/
def scriptCanonicalUptoCard : Claim7 := { stood := { row := scriptCanonicalUptoRow, standIns := [], harness := (true, "fc26ae62e8d72869bf9f8de3b684dbc26107528aae1cc65a5e4c59184dfc4e5a"), looks := true }, kinds := [], alts := [], laidByText := true, laidKinds := [.data, .data, .data, .data, .sentinel, .sentinel, .widerDeep, .pinned], laidTests := true, laidLooks := .later }
def ScriptCanonicalUptoCardSaid : Prop := Claim7.holds Tryz.pinned (.plain (OpenSpec.upto scriptCanonicalSpec)) scriptCanonicalUptoCard

/-- THE SECOND FORM's CARD OF 'custodylaw46.ScriptLines'. -/
def scriptLinesUptoCard : Claim7 := { stood := { row := scriptLinesUptoRow, standIns := [], harness := (true, "fc26ae62e8d72869bf9f8de3b684dbc26107528aae1cc65a5e4c59184dfc4e5a"), looks := true }, kinds := [], alts := [], laidByText := true, laidKinds := [.data, .data, .data, .data, .sentinel, .sentinel, .widerDeep, .pinned], laidTests := true, laidLooks := .later }
def ScriptLinesUptoCardSaid : Prop := Claim7.holds Tryz.pinned (.plain (OpenSpec.upto scriptLinesSpec)) scriptLinesUptoCard

/-- THE SECOND FORM's CARD OF 'custodylaw46.ScriptMatchesSpec'. -/
def scriptMatchesSpecUptoCard : Claim7 := { stood := { row := scriptMatchesSpecUptoRow, standIns := [], harness := (true, "fc26ae62e8d72869bf9f8de3b684dbc26107528aae1cc65a5e4c59184dfc4e5a"), looks := true }, kinds := [], alts := [], laidByText := true, laidKinds := [.data, .data, .data, .data, .sentinel, .sentinel, .widerDeep, .pinned], laidTests := true, laidLooks := .later }
def ScriptMatchesSpecUptoCardSaid : Prop := Claim7.holds Tryz.pinned (.plain (OpenSpec.upto scriptMatchesSpecSpec)) scriptMatchesSpecUptoCard

/-- THE SECOND FORM's CARD OF 'custodylaw46.ScriptParsesAsSpecified'. -/
def scriptParsesAsSpecifiedUptoCard : Claim7 := { stood := { row := scriptParsesAsSpecifiedUptoRow, standIns := [], harness := (true, "fc26ae62e8d72869bf9f8de3b684dbc26107528aae1cc65a5e4c59184dfc4e5a"), looks := true }, kinds := [], alts := [], laidByText := true, laidKinds := [.data, .data, .data, .data, .sentinel, .sentinel, .widerDeep, .pinned], laidTests := true, laidLooks := .later }
def ScriptParsesAsSpecifiedUptoCardSaid : Prop := Claim7.holds Tryz.pinned (.plain (OpenSpec.upto scriptParsesAsSpecifiedSpec)) scriptParsesAsSpecifiedUptoCard

/-- THE SECOND FORM's CARD OF 'custodylaw46.ScriptRoundTrip'. -/
def scriptRoundTripUptoCard : Claim7 := { stood := { row := scriptRoundTripUptoRow, standIns := [], harness := (true, "fc26ae62e8d72869bf9f8de3b684dbc26107528aae1cc65a5e4c59184dfc4e5a"), looks := true }, kinds := [], alts := [], laidByText := true, laidKinds := [.data, .data, .data, .data, .sentinel, .sentinel, .widerDeep, .pinned], laidTests := true, laidLooks := .later }
def ScriptRoundTripUptoCardSaid : Prop := Claim7.holds Tryz.pinned (.plain (OpenSpec.upto scriptRoundTripSpec)) scriptRoundTripUptoCard

/-- THE SECOND FORM's CARD OF 'custodylaw46.ScriptJoins'. -/
def scriptJoinsUptoCard : Claim7 := { stood := { row := scriptJoinsUptoRow, standIns := [], harness := (true, "fc26ae62e8d72869bf9f8de3b684dbc26107528aae1cc65a5e4c59184dfc4e5a"), looks := true }, kinds := [], alts := [], laidByText := true, laidKinds := [.data, .data, .data, .data, .sentinel, .sentinel, .widerDeep, .pinned], laidTests := true, laidLooks := .later }
def ScriptJoinsUptoCardSaid : Prop := Claim7.holds Tryz.pinned (.plain (OpenSpec.upto scriptJoinsSpec)) scriptJoinsUptoCard
end Rows
end Go.Proofs.YtecdkgiandbkeaaGreatDoor
