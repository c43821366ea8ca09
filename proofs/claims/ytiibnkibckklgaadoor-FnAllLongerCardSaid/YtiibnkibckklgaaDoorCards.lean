/-
  DERIVED. GIVEN WITH THE SEED: THE CARDS: each row of YtiibnkibckklgaaDoorRows.lean that lists a variable, with what it lists TIED to the program's text (the seventh form; the later family's looks); each row that meets fmt, with fmt's text TOLD by the authors' own Lean function (tested against real Go, not proved from fmt's source: count such statements apart). THE CARD IS WHAT COUNTS. Prove the row's statement (the work); the ties are given (YtiibnkibckklgaaDoorTie.lean); close each card by the builder's one call (the guide's Derived/Test/ToyasCard.lean, 'card_holds'). Laid BY PROGRAM, IN A SANDBOX (cutbox-door.mjs). By AI agents, Wed Nov 11 2026. No macro, syntax, notation, axiom, sorry.
-/
import Derived.Test.YtiibnkibckklgaaDoorRows
import GoSem.ClaimSeven
namespace Go.Proofs.YtiibnkibckklgaaDoor
namespace Rows

/-- THE TIED CARD OF 'laws.FnStepsOf'. -/
def fnStepsOfCard : Claim7 := { stood := { row := fnStepsOfRow, standIns := [], harness := (true, "bdb92f239ec33eaaab689e127e1e9d6f70e0095a055123736c0851e5c09be7af"), looks := false }, kinds := [], alts := [], laidByText := true, laidKinds := [.data, .data, .data, .data, .pinned], laidTests := true, laidLooks := .later }
def FnStepsOfCardSaid : Prop := Claim7.holds Tryd.pinned (.plain (OpenSpec.ofChange fnStepsOfSpec)) fnStepsOfCard

/-- THE TIED CARD OF 'laws.FnGramSigns'. -/
def fnGramSignsCard : Claim7 := { stood := { row := fnGramSignsRow, standIns := [], harness := (true, "bdb92f239ec33eaaab689e127e1e9d6f70e0095a055123736c0851e5c09be7af"), looks := false }, kinds := [], alts := [], laidByText := true, laidKinds := [.data, .pinned], laidTests := true, laidLooks := .later }
def FnGramSignsCardSaid : Prop := Claim7.holds Tryd.pinned (.plain (OpenSpec.ofChange fnGramSignsSpec)) fnGramSignsCard

/-- THE TIED CARD OF 'laws.FnTreeText'. -/
def fnTreeTextCard : Claim7 := { stood := { row := fnTreeTextRow, standIns := [], harness := (true, "bdb92f239ec33eaaab689e127e1e9d6f70e0095a055123736c0851e5c09be7af"), looks := false }, kinds := [], alts := [], laidByText := true, laidKinds := [.data, .data, .data, .data, .pinned], laidTests := true, laidLooks := .later }
def FnTreeTextCardSaid : Prop := Claim7.holds Tryd.pinned (.plain (OpenSpec.ofChange fnTreeTextSpec)) fnTreeTextCard

/-- THE TIED CARD OF 'laws.FnGramMet'. -/
def fnGramMetCard : Claim7 := { stood := { row := fnGramMetRow, standIns := [], harness := (true, "bdb92f239ec33eaaab689e127e1e9d6f70e0095a055123736c0851e5c09be7af"), looks := false }, kinds := [], alts := [], laidByText := true, laidKinds := [.data, .pinned], laidTests := true, laidLooks := .later }
def FnGramMetCardSaid : Prop := Claim7.holds Tryd.pinned (.plain (OpenSpec.ofChange fnGramMetSpec)) fnGramMetCard

/-- THE TIED CARD OF 'laws.FnExactCountWords'. -/
def fnExactCountWordsCard : Claim7 := { stood := { row := fnExactCountWordsRow, standIns := [], harness := (true, "bdb92f239ec33eaaab689e127e1e9d6f70e0095a055123736c0851e5c09be7af"), looks := false }, kinds := [], alts := [], laidByText := true, laidKinds := [.data, .pinned], laidTests := true, laidLooks := .later }
def FnExactCountWordsCardSaid : Prop := Claim7.holds Tryd.pinned (.plain (OpenSpec.ofChange fnExactCountWordsSpec)) fnExactCountWordsCard

/-- THE TIED CARD OF 'laws.FnAllLonger'. -/
def fnAllLongerCard : Claim7 := { stood := { row := fnAllLongerRow, standIns := [], harness := (true, "bdb92f239ec33eaaab689e127e1e9d6f70e0095a055123736c0851e5c09be7af"), looks := false }, kinds := [], alts := [], laidByText := true, laidKinds := [.data, .pinned], laidTests := true, laidLooks := .later }
def FnAllLongerCardSaid : Prop := Claim7.holds Tryd.pinned (.plain (OpenSpec.ofChange fnAllLongerSpec)) fnAllLongerCard

/-- THE TIED CARD OF 'laws.FnAllWords'. -/
def fnAllWordsCard : Claim7 := { stood := { row := fnAllWordsRow, standIns := [], harness := (true, "bdb92f239ec33eaaab689e127e1e9d6f70e0095a055123736c0851e5c09be7af"), looks := false }, kinds := [], alts := [], laidByText := true, laidKinds := [.data, .pinned], laidTests := true, laidLooks := .later }
def FnAllWordsCardSaid : Prop := Claim7.holds Tryd.pinned (.plain (OpenSpec.ofChange fnAllWordsSpec)) fnAllWordsCard

/-- THE TIED CARD OF 'laws.FnCountSum'. -/
def fnCountSumCard : Claim7 := { stood := { row := fnCountSumRow, standIns := [], harness := (true, "bdb92f239ec33eaaab689e127e1e9d6f70e0095a055123736c0851e5c09be7af"), looks := false }, kinds := [], alts := [], laidByText := true, laidKinds := [.data, .pinned], laidTests := true, laidLooks := .later }
def FnCountSumCardSaid : Prop := Claim7.holds Tryd.pinned (.plain (OpenSpec.ofChange fnCountSumSpec)) fnCountSumCard

/-- THE TIED CARD OF 'laws.FnCountWords'. -/
def fnCountWordsCard : Claim7 := { stood := { row := fnCountWordsRow, standIns := [], harness := (true, "bdb92f239ec33eaaab689e127e1e9d6f70e0095a055123736c0851e5c09be7af"), looks := false }, kinds := [], alts := [], laidByText := true, laidKinds := [.data, .pinned], laidTests := true, laidLooks := .later }
def FnCountWordsCardSaid : Prop := Claim7.holds Tryd.pinned (.plain (OpenSpec.ofChange fnCountWordsSpec)) fnCountWordsCard

/-- THE TIED CARD OF 'laws.FnMendBent'. -/
def fnMendBentCard : Claim7 := { stood := { row := fnMendBentRow, standIns := [], harness := (true, "bdb92f239ec33eaaab689e127e1e9d6f70e0095a055123736c0851e5c09be7af"), looks := false }, kinds := [], alts := [], laidByText := true, laidKinds := [.data, .pinned], laidTests := true, laidLooks := .later }
def FnMendBentCardSaid : Prop := Claim7.holds Tryd.pinned (.plain (OpenSpec.ofChange fnMendBentSpec)) fnMendBentCard

/-- THE SECOND FORM's CARD OF 'laws.FnStepsOf'. -/
def fnStepsOfUptoCard : Claim7 := { stood := { row := fnStepsOfUptoRow, standIns := [], harness := (true, "bdb92f239ec33eaaab689e127e1e9d6f70e0095a055123736c0851e5c09be7af"), looks := false }, kinds := [], alts := [], laidByText := true, laidKinds := [.data, .data, .data, .data, .pinned], laidTests := true, laidLooks := .later }
def FnStepsOfUptoCardSaid : Prop := Claim7.holds Tryd.pinned (.plain (OpenSpec.upto fnStepsOfSpec)) fnStepsOfUptoCard

/-- THE SECOND FORM's CARD OF 'laws.FnGramSigns'. -/
def fnGramSignsUptoCard : Claim7 := { stood := { row := fnGramSignsUptoRow, standIns := [], harness := (true, "bdb92f239ec33eaaab689e127e1e9d6f70e0095a055123736c0851e5c09be7af"), looks := false }, kinds := [], alts := [], laidByText := true, laidKinds := [.data, .pinned], laidTests := true, laidLooks := .later }
def FnGramSignsUptoCardSaid : Prop := Claim7.holds Tryd.pinned (.plain (OpenSpec.upto fnGramSignsSpec)) fnGramSignsUptoCard

/-- THE SECOND FORM's CARD OF 'laws.FnTreeText'. -/
def fnTreeTextUptoCard : Claim7 := { stood := { row := fnTreeTextUptoRow, standIns := [], harness := (true, "bdb92f239ec33eaaab689e127e1e9d6f70e0095a055123736c0851e5c09be7af"), looks := false }, kinds := [], alts := [], laidByText := true, laidKinds := [.data, .data, .data, .data, .pinned], laidTests := true, laidLooks := .later }
def FnTreeTextUptoCardSaid : Prop := Claim7.holds Tryd.pinned (.plain (OpenSpec.upto fnTreeTextSpec)) fnTreeTextUptoCard

/-- THE SECOND FORM's CARD OF 'laws.FnGramMet'. -/
def fnGramMetUptoCard : Claim7 := { stood := { row := fnGramMetUptoRow, standIns := [], harness := (true, "bdb92f239ec33eaaab689e127e1e9d6f70e0095a055123736c0851e5c09be7af"), looks := false }, kinds := [], alts := [], laidByText := true, laidKinds := [.data, .pinned], laidTests := true, laidLooks := .later }
def FnGramMetUptoCardSaid : Prop := Claim7.holds Tryd.pinned (.plain (OpenSpec.upto fnGramMetSpec)) fnGramMetUptoCard

/-- THE SECOND FORM's CARD OF 'laws.FnExactCountWords'. -/
def fnExactCountWordsUptoCard : Claim7 := { stood := { row := fnExactCountWordsUptoRow, standIns := [], harness := (true, "bdb92f239ec33eaaab689e127e1e9d6f70e0095a055123736c0851e5c09be7af"), looks := false }, kinds := [], alts := [], laidByText := true, laidKinds := [.data, .pinned], laidTests := true, laidLooks := .later }
def FnExactCountWordsUptoCardSaid : Prop := Claim7.holds Tryd.pinned (.plain (OpenSpec.upto fnExactCountWordsSpec)) fnExactCountWordsUptoCard

/-- THE SECOND FORM's CARD OF 'laws.FnAllLonger'. -/
def fnAllLongerUptoCard : Claim7 := { stood := { row := fnAllLongerUptoRow, standIns := [], harness := (true, "bdb92f239ec33eaaab689e127e1e9d6f70e0095a055123736c0851e5c09be7af"), looks := false }, kinds := [], alts := [], laidByText := true, laidKinds := [.data, .pinned], laidTests := true, laidLooks := .later }
def FnAllLongerUptoCardSaid : Prop := Claim7.holds Tryd.pinned (.plain (OpenSpec.upto fnAllLongerSpec)) fnAllLongerUptoCard

/-- THE SECOND FORM's CARD OF 'laws.FnAllWords'. -/
def fnAllWordsUptoCard : Claim7 := { stood := { row := fnAllWordsUptoRow, standIns := [], harness := (true, "bdb92f239ec33eaaab689e127e1e9d6f70e0095a055123736c0851e5c09be7af"), looks := false }, kinds := [], alts := [], laidByText := true, laidKinds := [.data, .pinned], laidTests := true, laidLooks := .later }
def FnAllWordsUptoCardSaid : Prop := Claim7.holds Tryd.pinned (.plain (OpenSpec.upto fnAllWordsSpec)) fnAllWordsUptoCard

/-- THE SECOND FORM's CARD OF 'laws.FnCountSum'. -/
def fnCountSumUptoCard : Claim7 := { stood := { row := fnCountSumUptoRow, standIns := [], harness := (true, "bdb92f239ec33eaaab689e127e1e9d6f70e0095a055123736c0851e5c09be7af"), looks := false }, kinds := [], alts := [], laidByText := true, laidKinds := [.data, .pinned], laidTests := true, laidLooks := .later }
def FnCountSumUptoCardSaid : Prop := Claim7.holds Tryd.pinned (.plain (OpenSpec.upto fnCountSumSpec)) fnCountSumUptoCard

/-- THE SECOND FORM's CARD OF 'laws.FnCountWords'. -/
def fnCountWordsUptoCard : Claim7 := { stood := { row := fnCountWordsUptoRow, standIns := [], harness := (true, "bdb92f239ec33eaaab689e127e1e9d6f70e0095a055123736c0851e5c09be7af"), looks := false }, kinds := [], alts := [], laidByText := true, laidKinds := [.data, .pinned], laidTests := true, laidLooks := .later }
def FnCountWordsUptoCardSaid : Prop := Claim7.holds Tryd.pinned (.plain (OpenSpec.upto fnCountWordsSpec)) fnCountWordsUptoCard

/-- THE SECOND FORM's CARD OF 'laws.FnMendBent'. -/
def fnMendBentUptoCard : Claim7 := { stood := { row := fnMendBentUptoRow, standIns := [], harness := (true, "bdb92f239ec33eaaab689e127e1e9d6f70e0095a055123736c0851e5c09be7af"), looks := false }, kinds := [], alts := [], laidByText := true, laidKinds := [.data, .pinned], laidTests := true, laidLooks := .later }
def FnMendBentUptoCardSaid : Prop := Claim7.holds Tryd.pinned (.plain (OpenSpec.upto fnMendBentSpec)) fnMendBentUptoCard
end Rows
end Go.Proofs.YtiibnkibckklgaaDoor
