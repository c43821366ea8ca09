/-
  DERIVED. GIVEN WITH THE SEED: THE CARDS: each row of YtiibnkibckklgaaGreatDoorRows.lean that lists a variable, with what it lists TIED to the program's text (the seventh form; the later family's looks); each row that meets fmt, with fmt's text TOLD by the authors' own Lean function (tested against real Go, not proved from fmt's source: count such statements apart). THE CARD IS WHAT COUNTS. Prove the row's statement (the work); the ties are given (YtiibnkibckklgaaGreatDoorTie.lean); close each card by the builder's one call (the guide's Derived/Test/ToyasCard.lean, 'card_holds'). Laid BY PROGRAM, IN A SANDBOX (cutbox-door.mjs). By AI agents, Wed Nov 11 2026. No macro, syntax, notation, axiom, sorry.
-/
import Derived.Test.YtiibnkibckklgaaGreatDoorRows
import GoSem.ClaimSeven
namespace Go.Proofs.YtiibnkibckklgaaGreatDoor
namespace Rows

/-- THE TIED CARD OF 'laws.FnGramOnes'. -/
def fnGramOnesCard : Claim7 := { stood := { row := fnGramOnesRow, standIns := [], harness := (true, "54f8be19600cbff87d37ad00c10f9a9cd328f437b46d356a194030363d5dfcc8"), looks := false }, kinds := [], alts := [], laidByText := true, laidKinds := [.data, .pinned], laidTests := true, laidLooks := .later }
def FnGramOnesCardSaid : Prop := Claim7.holds Tryz.pinned (.plain (OpenSpec.ofChange fnGramOnesSpec)) fnGramOnesCard

/-- THE TIED CARD OF 'laws.FnAllSame'. -/
def fnAllSameCard : Claim7 := { stood := { row := fnAllSameRow, standIns := [], harness := (true, "54f8be19600cbff87d37ad00c10f9a9cd328f437b46d356a194030363d5dfcc8"), looks := false }, kinds := [], alts := [], laidByText := true, laidKinds := [.data, .pinned], laidTests := true, laidLooks := .later }
def FnAllSameCardSaid : Prop := Claim7.holds Tryz.pinned (.plain (OpenSpec.ofChange fnAllSameSpec)) fnAllSameCard

/-- THE TIED CARD OF 'laws.FnExactMendNext'. -/
def fnExactMendNextCard : Claim7 := { stood := { row := fnExactMendNextRow, standIns := [], harness := (true, "54f8be19600cbff87d37ad00c10f9a9cd328f437b46d356a194030363d5dfcc8"), looks := false }, kinds := [], alts := [], laidByText := true, laidKinds := [.data, .pinned], laidTests := true, laidLooks := .later }
def FnExactMendNextCardSaid : Prop := Claim7.holds Tryz.pinned (.plain (OpenSpec.ofChange fnExactMendNextSpec)) fnExactMendNextCard

/-- THE TIED CARD OF 'laws.FnAllBent'. -/
def fnAllBentCard : Claim7 := { stood := { row := fnAllBentRow, standIns := [], harness := (true, "54f8be19600cbff87d37ad00c10f9a9cd328f437b46d356a194030363d5dfcc8"), looks := false }, kinds := [], alts := [], laidByText := true, laidKinds := [.data, .pinned], laidTests := true, laidLooks := .later }
def FnAllBentCardSaid : Prop := Claim7.holds Tryz.pinned (.plain (OpenSpec.ofChange fnAllBentSpec)) fnAllBentCard

/-- THE TIED CARD OF 'laws.FnAllIs'. -/
def fnAllIsCard : Claim7 := { stood := { row := fnAllIsRow, standIns := [], harness := (true, "54f8be19600cbff87d37ad00c10f9a9cd328f437b46d356a194030363d5dfcc8"), looks := false }, kinds := [], alts := [], laidByText := true, laidKinds := [.data, .pinned], laidTests := true, laidLooks := .later }
def FnAllIsCardSaid : Prop := Claim7.holds Tryz.pinned (.plain (OpenSpec.ofChange fnAllIsSpec)) fnAllIsCard

/-- THE TIED CARD OF 'laws.FnMeetHas'. -/
def fnMeetHasCard : Claim7 := { stood := { row := fnMeetHasRow, standIns := [], harness := (true, "54f8be19600cbff87d37ad00c10f9a9cd328f437b46d356a194030363d5dfcc8"), looks := false }, kinds := [], alts := [], laidByText := true, laidKinds := [.data, .pinned], laidTests := true, laidLooks := .later }
def FnMeetHasCardSaid : Prop := Claim7.holds Tryz.pinned (.plain (OpenSpec.ofChange fnMeetHasSpec)) fnMeetHasCard

/-- THE TIED CARD OF 'laws.FnMendFar'. -/
def fnMendFarCard : Claim7 := { stood := { row := fnMendFarRow, standIns := [], harness := (true, "54f8be19600cbff87d37ad00c10f9a9cd328f437b46d356a194030363d5dfcc8"), looks := false }, kinds := [], alts := [], laidByText := true, laidKinds := [.data, .pinned], laidTests := true, laidLooks := .later }
def FnMendFarCardSaid : Prop := Claim7.holds Tryz.pinned (.plain (OpenSpec.ofChange fnMendFarSpec)) fnMendFarCard

/-- THE TIED CARD OF 'laws.FnMendNext'. -/
def fnMendNextCard : Claim7 := { stood := { row := fnMendNextRow, standIns := [], harness := (true, "54f8be19600cbff87d37ad00c10f9a9cd328f437b46d356a194030363d5dfcc8"), looks := false }, kinds := [], alts := [], laidByText := true, laidKinds := [.data, .pinned], laidTests := true, laidLooks := .later }
def FnMendNextCardSaid : Prop := Claim7.holds Tryz.pinned (.plain (OpenSpec.ofChange fnMendNextSpec)) fnMendNextCard

/-- THE TIED CARD OF 'laws.FnMendTwice'. -/
def fnMendTwiceCard : Claim7 := { stood := { row := fnMendTwiceRow, standIns := [], harness := (true, "54f8be19600cbff87d37ad00c10f9a9cd328f437b46d356a194030363d5dfcc8"), looks := false }, kinds := [], alts := [], laidByText := true, laidKinds := [.data, .pinned], laidTests := true, laidLooks := .later }
def FnMendTwiceCardSaid : Prop := Claim7.holds Tryz.pinned (.plain (OpenSpec.ofChange fnMendTwiceSpec)) fnMendTwiceCard

/-- THE TIED CARD OF 'laws.FnExactMendRun'. -/
def fnExactMendRunCard : Claim7 := { stood := { row := fnExactMendRunRow, standIns := [], harness := (true, "54f8be19600cbff87d37ad00c10f9a9cd328f437b46d356a194030363d5dfcc8"), looks := false }, kinds := [], alts := [], laidByText := true, laidKinds := [.data, .pinned], laidTests := true, laidLooks := .later }
def FnExactMendRunCardSaid : Prop := Claim7.holds Tryz.pinned (.plain (OpenSpec.ofChange fnExactMendRunSpec)) fnExactMendRunCard

/-- THE TIED CARD OF 'laws.FnGramPlain'. -/
def fnGramPlainCard : Claim7 := { stood := { row := fnGramPlainRow, standIns := [], harness := (true, "54f8be19600cbff87d37ad00c10f9a9cd328f437b46d356a194030363d5dfcc8"), looks := false }, kinds := [], alts := [], laidByText := true, laidKinds := [.data, .pinned], laidTests := true, laidLooks := .later }
def FnGramPlainCardSaid : Prop := Claim7.holds Tryz.pinned (.plain (OpenSpec.ofChange fnGramPlainSpec)) fnGramPlainCard

/-- THE TIED CARD OF 'laws.FnAllTrees'. -/
def fnAllTreesCard : Claim7 := { stood := { row := fnAllTreesRow, standIns := [], harness := (true, "54f8be19600cbff87d37ad00c10f9a9cd328f437b46d356a194030363d5dfcc8"), looks := false }, kinds := [], alts := [], laidByText := true, laidKinds := [.data, .pinned], laidTests := true, laidLooks := .later }
def FnAllTreesCardSaid : Prop := Claim7.holds Tryz.pinned (.plain (OpenSpec.ofChange fnAllTreesSpec)) fnAllTreesCard

/-- THE TIED CARD OF 'laws.FnAllDoubt'. -/
def fnAllDoubtCard : Claim7 := { stood := { row := fnAllDoubtRow, standIns := [], harness := (true, "54f8be19600cbff87d37ad00c10f9a9cd328f437b46d356a194030363d5dfcc8"), looks := false }, kinds := [], alts := [], laidByText := true, laidKinds := [.data, .pinned], laidTests := true, laidLooks := .later }
def FnAllDoubtCardSaid : Prop := Claim7.holds Tryz.pinned (.plain (OpenSpec.ofChange fnAllDoubtSpec)) fnAllDoubtCard

/-- THE TIED CARD OF 'laws.FnMendOwn'. -/
def fnMendOwnCard : Claim7 := { stood := { row := fnMendOwnRow, standIns := [], harness := (true, "54f8be19600cbff87d37ad00c10f9a9cd328f437b46d356a194030363d5dfcc8"), looks := false }, kinds := [], alts := [], laidByText := true, laidKinds := [.data, .pinned], laidTests := true, laidLooks := .later }
def FnMendOwnCardSaid : Prop := Claim7.holds Tryz.pinned (.plain (OpenSpec.ofChange fnMendOwnSpec)) fnMendOwnCard

/-- THE SECOND FORM's CARD OF 'laws.FnGramOnes'. -/
def fnGramOnesUptoCard : Claim7 := { stood := { row := fnGramOnesUptoRow, standIns := [], harness := (true, "54f8be19600cbff87d37ad00c10f9a9cd328f437b46d356a194030363d5dfcc8"), looks := false }, kinds := [], alts := [], laidByText := true, laidKinds := [.data, .pinned], laidTests := true, laidLooks := .later }
def FnGramOnesUptoCardSaid : Prop := Claim7.holds Tryz.pinned (.plain (OpenSpec.upto fnGramOnesSpec)) fnGramOnesUptoCard

/-- THE SECOND FORM's CARD OF 'laws.FnAllSame'. -/
def fnAllSameUptoCard : Claim7 := { stood := { row := fnAllSameUptoRow, standIns := [], harness := (true, "54f8be19600cbff87d37ad00c10f9a9cd328f437b46d356a194030363d5dfcc8"), looks := false }, kinds := [], alts := [], laidByText := true, laidKinds := [.data, .pinned], laidTests := true, laidLooks := .later }
def FnAllSameUptoCardSaid : Prop := Claim7.holds Tryz.pinned (.plain (OpenSpec.upto fnAllSameSpec)) fnAllSameUptoCard

/-- THE SECOND FORM's CARD OF 'laws.FnExactMendNext'. -/
def fnExactMendNextUptoCard : Claim7 := { stood := { row := fnExactMendNextUptoRow, standIns := [], harness := (true, "54f8be19600cbff87d37ad00c10f9a9cd328f437b46d356a194030363d5dfcc8"), looks := false }, kinds := [], alts := [], laidByText := true, laidKinds := [.data, .pinned], laidTests := true, laidLooks := .later }
def FnExactMendNextUptoCardSaid : Prop := Claim7.holds Tryz.pinned (.plain (OpenSpec.upto fnExactMendNextSpec)) fnExactMendNextUptoCard

/-- THE SECOND FORM's CARD OF 'laws.FnAllBent'. -/
def fnAllBentUptoCard : Claim7 := { stood := { row := fnAllBentUptoRow, standIns := [], harness := (true, "54f8be19600cbff87d37ad00c10f9a9cd328f437b46d356a194030363d5dfcc8"), looks := false }, kinds := [], alts := [], laidByText := true, laidKinds := [.data, .pinned], laidTests := true, laidLooks := .later }
def FnAllBentUptoCardSaid : Prop := Claim7.holds Tryz.pinned (.plain (OpenSpec.upto fnAllBentSpec)) fnAllBentUptoCard

/-- THE SECOND FORM's CARD OF 'laws.FnAllIs'. -/
def fnAllIsUptoCard : Claim7 := { stood := { row := fnAllIsUptoRow, standIns := [], harness := (true, "54f8be19600cbff87d37ad00c10f9a9cd328f437b46d356a194030363d5dfcc8"), looks := false }, kinds := [], alts := [], laidByText := true, laidKinds := [.data, .pinned], laidTests := true, laidLooks := .later }
def FnAllIsUptoCardSaid : Prop := Claim7.holds Tryz.pinned (.plain (OpenSpec.upto fnAllIsSpec)) fnAllIsUptoCard

/-- THE SECOND FORM's CARD OF 'laws.FnMeetHas'. -/
def fnMeetHasUptoCard : Claim7 := { stood := { row := fnMeetHasUptoRow, standIns := [], harness := (true, "54f8be19600cbff87d37ad00c10f9a9cd328f437b46d356a194030363d5dfcc8"), looks := false }, kinds := [], alts := [], laidByText := true, laidKinds := [.data, .pinned], laidTests := true, laidLooks := .later }
def FnMeetHasUptoCardSaid : Prop := Claim7.holds Tryz.pinned (.plain (OpenSpec.upto fnMeetHasSpec)) fnMeetHasUptoCard

/-- THE SECOND FORM's CARD OF 'laws.FnMendFar'. -/
def fnMendFarUptoCard : Claim7 := { stood := { row := fnMendFarUptoRow, standIns := [], harness := (true, "54f8be19600cbff87d37ad00c10f9a9cd328f437b46d356a194030363d5dfcc8"), looks := false }, kinds := [], alts := [], laidByText := true, laidKinds := [.data, .pinned], laidTests := true, laidLooks := .later }
def FnMendFarUptoCardSaid : Prop := Claim7.holds Tryz.pinned (.plain (OpenSpec.upto fnMendFarSpec)) fnMendFarUptoCard

/-- THE SECOND FORM's CARD OF 'laws.FnMendNext'. -/
def fnMendNextUptoCard : Claim7 := { stood := { row := fnMendNextUptoRow, standIns := [], harness := (true, "54f8be19600cbff87d37ad00c10f9a9cd328f437b46d356a194030363d5dfcc8"), looks := false }, kinds := [], alts := [], laidByText := true, laidKinds := [.data, .pinned], laidTests := true, laidLooks := .later }
def FnMendNextUptoCardSaid : Prop := Claim7.holds Tryz.pinned (.plain (OpenSpec.upto fnMendNextSpec)) fnMendNextUptoCard

/-- THE SECOND FORM's CARD OF 'laws.FnMendTwice'. -/
def fnMendTwiceUptoCard : Claim7 := { stood := { row := fnMendTwiceUptoRow, standIns := [], harness := (true, "54f8be19600cbff87d37ad00c10f9a9cd328f437b46d356a194030363d5dfcc8"), looks := false }, kinds := [], alts := [], laidByText := true, laidKinds := [.data, .pinned], laidTests := true, laidLooks := .later }
def FnMendTwiceUptoCardSaid : Prop := Claim7.holds Tryz.pinned (.plain (OpenSpec.upto fnMendTwiceSpec)) fnMendTwiceUptoCard

/-- THE SECOND FORM's CARD OF 'laws.FnExactMendRun'. -/
def fnExactMendRunUptoCard : Claim7 := { stood := { row := fnExactMendRunUptoRow, standIns := [], harness := (true, "54f8be19600cbff87d37ad00c10f9a9cd328f437b46d356a194030363d5dfcc8"), looks := false }, kinds := [], alts := [], laidByText := true, laidKinds := [.data, .pinned], laidTests := true, laidLooks := .later }
def FnExactMendRunUptoCardSaid : Prop := Claim7.holds Tryz.pinned (.plain (OpenSpec.upto fnExactMendRunSpec)) fnExactMendRunUptoCard

/-- THE SECOND FORM's CARD OF 'laws.FnGramPlain'. -/
def fnGramPlainUptoCard : Claim7 := { stood := { row := fnGramPlainUptoRow, standIns := [], harness := (true, "54f8be19600cbff87d37ad00c10f9a9cd328f437b46d356a194030363d5dfcc8"), looks := false }, kinds := [], alts := [], laidByText := true, laidKinds := [.data, .pinned], laidTests := true, laidLooks := .later }
def FnGramPlainUptoCardSaid : Prop := Claim7.holds Tryz.pinned (.plain (OpenSpec.upto fnGramPlainSpec)) fnGramPlainUptoCard

/-- THE SECOND FORM's CARD OF 'laws.FnAllTrees'. -/
def fnAllTreesUptoCard : Claim7 := { stood := { row := fnAllTreesUptoRow, standIns := [], harness := (true, "54f8be19600cbff87d37ad00c10f9a9cd328f437b46d356a194030363d5dfcc8"), looks := false }, kinds := [], alts := [], laidByText := true, laidKinds := [.data, .pinned], laidTests := true, laidLooks := .later }
def FnAllTreesUptoCardSaid : Prop := Claim7.holds Tryz.pinned (.plain (OpenSpec.upto fnAllTreesSpec)) fnAllTreesUptoCard

/-- THE SECOND FORM's CARD OF 'laws.FnAllDoubt'. -/
def fnAllDoubtUptoCard : Claim7 := { stood := { row := fnAllDoubtUptoRow, standIns := [], harness := (true, "54f8be19600cbff87d37ad00c10f9a9cd328f437b46d356a194030363d5dfcc8"), looks := false }, kinds := [], alts := [], laidByText := true, laidKinds := [.data, .pinned], laidTests := true, laidLooks := .later }
def FnAllDoubtUptoCardSaid : Prop := Claim7.holds Tryz.pinned (.plain (OpenSpec.upto fnAllDoubtSpec)) fnAllDoubtUptoCard

/-- THE SECOND FORM's CARD OF 'laws.FnMendOwn'. -/
def fnMendOwnUptoCard : Claim7 := { stood := { row := fnMendOwnUptoRow, standIns := [], harness := (true, "54f8be19600cbff87d37ad00c10f9a9cd328f437b46d356a194030363d5dfcc8"), looks := false }, kinds := [], alts := [], laidByText := true, laidKinds := [.data, .pinned], laidTests := true, laidLooks := .later }
def FnMendOwnUptoCardSaid : Prop := Claim7.holds Tryz.pinned (.plain (OpenSpec.upto fnMendOwnSpec)) fnMendOwnUptoCard
end Rows
end Go.Proofs.YtiibnkibckklgaaGreatDoor
