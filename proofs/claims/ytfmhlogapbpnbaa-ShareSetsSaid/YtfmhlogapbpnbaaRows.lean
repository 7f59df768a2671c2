/-
  No cell of these rows narrows 'for every input' (looked for: loops, veiled, ifaces, maps, wideKeys, modest, calm, conditions, laid).
  DERIVED. THE GIVEN ROWS OF THIS SEAT. 21 by the template 'for every input the law returns true; each argument reads behind the call as it read before'; 0 by the template 'total and deterministic' (their statements: YtfmhlogapbpnbaaTotals.lean).
  GIVEN WITH THE SEED: the statements are not yours to turn. If you find one false, say at which input.
  Laid BY PROGRAM, IN A SANDBOX (cutbox-rows.mjs): the forced cells as the released guide's own fill.sh prints them over the translation f985dee9ce5cb3aa… (all of the seat's roots in one cut). By AI agents, Wed Nov 11 2026. No macro, syntax, notation, axiom, sorry.
-/
import Derived.Test.YtfmhlogapbpnbaaChecked
import GoSem.Claim
import GoSem.ClaimJoined
import GoSem.ClaimMapViews
import Derived.JoinedTies
import Derived.KernelRfl
namespace Go.Proofs.Ytfmhlogapbpnbaa
/- THE CELL 'sum', in the pinned program and in every row, IS THE sha256 OF THE DUMP (.gsa) THAT YtfmhlogapbpnbaaProg.lean LOADS. Nothing in Lean hashes anything: it is a label: what it is worth is what the hold of that sum in a sandbox is worth. -/
noncomputable def Try.pinned : Pinned := { name := "ytfmhlogapbpnbaa", sum := "f985dee9ce5cb3aa3b2dbddef9020334a1c2ad9afee18211dceacecec71cc3a1", checked := Try.checked }
namespace Rows
def none {H : Type} : Left H := { results := [], args := [] }

/-- 'tollhouselaw03.KeccakSums': WHATEVER THE INPUT: true; the input reads as it did. -/
def keccakSumsSpec : ChangeSpec := { name := "keccakSums", fn := fun _ => fun
  | [d1, d2] => { results := [.lit (.bool true)], args := [d1, d2] }
  | _ => none }
def keccakSumsRow : OpenClaim := { program := "ytfmhlogapbpnbaa", sum := "f985dee9ce5cb3aa3b2dbddef9020334a1c2ad9afee18211dceacecec71cc3a1", func := "tollhouse/tollhouselaw03.KeccakSums", spec := "keccakSums", apart := false }
def KeccakSumsSaid : Prop := keccakSumsRow.holds Try.pinned (OpenSpec.ofChange keccakSumsSpec)

/-- ITS FALSE NEIGHBOUR: 'it returns false'. Refute it at one input. -/
def keccakSumsWrong : ChangeSpec := { name := "keccakSums", fn := fun _ => fun
  | [d1, d2] => { results := [.lit (.bool false)], args := [d1, d2] }
  | _ => none }
def KeccakSumsWrongFalsely : Prop := keccakSumsRow.holds Try.pinned (OpenSpec.ofChange keccakSumsWrong)

/-- 'tollhouselaw03.KeccakStreams': WHATEVER THE INPUT: true; the input reads as it did. -/
def keccakStreamsSpec : ChangeSpec := { name := "keccakStreams", fn := fun _ => fun
  | [d1, d2, d3, d4] => { results := [.lit (.bool true)], args := [d1, d2, d3, d4] }
  | _ => none }
def keccakStreamsRow : OpenClaim := { program := "ytfmhlogapbpnbaa", sum := "f985dee9ce5cb3aa3b2dbddef9020334a1c2ad9afee18211dceacecec71cc3a1", func := "tollhouse/tollhouselaw03.KeccakStreams", spec := "keccakStreams", apart := false }
def KeccakStreamsSaid : Prop := keccakStreamsRow.holds Try.pinned (OpenSpec.ofChange keccakStreamsSpec)

/-- ITS FALSE NEIGHBOUR: 'it returns false'. Refute it at one input. -/
def keccakStreamsWrong : ChangeSpec := { name := "keccakStreams", fn := fun _ => fun
  | [d1, d2, d3, d4] => { results := [.lit (.bool false)], args := [d1, d2, d3, d4] }
  | _ => none }
def KeccakStreamsWrongFalsely : Prop := keccakStreamsRow.holds Try.pinned (OpenSpec.ofChange keccakStreamsWrong)

/-- 'tollhouselaw03.KeccakLengths': WHATEVER THE INPUT: true; the input reads as it did. -/
def keccakLengthsSpec : ChangeSpec := { name := "keccakLengths", fn := fun _ => fun
  | [d1, d2] => { results := [.lit (.bool true)], args := [d1, d2] }
  | _ => none }
def keccakLengthsRow : OpenClaim := { program := "ytfmhlogapbpnbaa", sum := "f985dee9ce5cb3aa3b2dbddef9020334a1c2ad9afee18211dceacecec71cc3a1", func := "tollhouse/tollhouselaw03.KeccakLengths", spec := "keccakLengths", apart := false }
def KeccakLengthsSaid : Prop := keccakLengthsRow.holds Try.pinned (OpenSpec.ofChange keccakLengthsSpec)

/-- ITS FALSE NEIGHBOUR: 'it returns false'. Refute it at one input. -/
def keccakLengthsWrong : ChangeSpec := { name := "keccakLengths", fn := fun _ => fun
  | [d1, d2] => { results := [.lit (.bool false)], args := [d1, d2] }
  | _ => none }
def KeccakLengthsWrongFalsely : Prop := keccakLengthsRow.holds Try.pinned (OpenSpec.ofChange keccakLengthsWrong)

/-- 'tollhouselaw03.KeccakPieces': WHATEVER THE INPUT: true; the input reads as it did. -/
def keccakPiecesSpec : ChangeSpec := { name := "keccakPieces", fn := fun _ => fun
  | [d] => { results := [.lit (.bool true)], args := [d] }
  | _ => none }
def keccakPiecesRow : OpenClaim := { program := "ytfmhlogapbpnbaa", sum := "f985dee9ce5cb3aa3b2dbddef9020334a1c2ad9afee18211dceacecec71cc3a1", func := "tollhouse/tollhouselaw03.KeccakPieces", spec := "keccakPieces", apart := false }
def KeccakPiecesSaid : Prop := keccakPiecesRow.holds Try.pinned (OpenSpec.ofChange keccakPiecesSpec)

/-- ITS FALSE NEIGHBOUR: 'it returns false'. Refute it at one input. -/
def keccakPiecesWrong : ChangeSpec := { name := "keccakPieces", fn := fun _ => fun
  | [d] => { results := [.lit (.bool false)], args := [d] }
  | _ => none }
def KeccakPiecesWrongFalsely : Prop := keccakPiecesRow.holds Try.pinned (OpenSpec.ofChange keccakPiecesWrong)

/-- 'tollhouselaw03.KeccakParts': WHATEVER THE INPUT: true; the input reads as it did. -/
def keccakPartsSpec : ChangeSpec := { name := "keccakParts", fn := fun _ => fun
  | [d1, d2, d3] => { results := [.lit (.bool true)], args := [d1, d2, d3] }
  | _ => none }
def keccakPartsRow : OpenClaim := { program := "ytfmhlogapbpnbaa", sum := "f985dee9ce5cb3aa3b2dbddef9020334a1c2ad9afee18211dceacecec71cc3a1", func := "tollhouse/tollhouselaw03.KeccakParts", spec := "keccakParts", apart := false }
def KeccakPartsSaid : Prop := keccakPartsRow.holds Try.pinned (OpenSpec.ofChange keccakPartsSpec)

/-- ITS FALSE NEIGHBOUR: 'it returns false'. Refute it at one input. -/
def keccakPartsWrong : ChangeSpec := { name := "keccakParts", fn := fun _ => fun
  | [d1, d2, d3] => { results := [.lit (.bool false)], args := [d1, d2, d3] }
  | _ => none }
def KeccakPartsWrongFalsely : Prop := keccakPartsRow.holds Try.pinned (OpenSpec.ofChange keccakPartsWrong)

/-- 'tollhouselaw03.KeccakRounds': WHATEVER THE INPUT: true; the input reads as it did. -/
def keccakRoundsSpec : ChangeSpec := { name := "keccakRounds", fn := fun _ => fun
  | [d1, d2] => { results := [.lit (.bool true)], args := [d1, d2] }
  | _ => none }
def keccakRoundsRow : OpenClaim := { program := "ytfmhlogapbpnbaa", sum := "f985dee9ce5cb3aa3b2dbddef9020334a1c2ad9afee18211dceacecec71cc3a1", func := "tollhouse/tollhouselaw03.KeccakRounds", spec := "keccakRounds", apart := false }
def KeccakRoundsSaid : Prop := keccakRoundsRow.holds Try.pinned (OpenSpec.ofChange keccakRoundsSpec)

/-- ITS FALSE NEIGHBOUR: 'it returns false'. Refute it at one input. -/
def keccakRoundsWrong : ChangeSpec := { name := "keccakRounds", fn := fun _ => fun
  | [d1, d2] => { results := [.lit (.bool false)], args := [d1, d2] }
  | _ => none }
def KeccakRoundsWrongFalsely : Prop := keccakRoundsRow.holds Try.pinned (OpenSpec.ofChange keccakRoundsWrong)

/-- 'tollhouselaw03.KeccakTurns': WHATEVER THE INPUT: true; the input reads as it did. -/
def keccakTurnsSpec : ChangeSpec := { name := "keccakTurns", fn := fun _ => fun
  | [d] => { results := [.lit (.bool true)], args := [d] }
  | _ => none }
def keccakTurnsRow : OpenClaim := { program := "ytfmhlogapbpnbaa", sum := "f985dee9ce5cb3aa3b2dbddef9020334a1c2ad9afee18211dceacecec71cc3a1", func := "tollhouse/tollhouselaw03.KeccakTurns", spec := "keccakTurns", apart := false }
def KeccakTurnsSaid : Prop := keccakTurnsRow.holds Try.pinned (OpenSpec.ofChange keccakTurnsSpec)

/-- ITS FALSE NEIGHBOUR: 'it returns false'. Refute it at one input. -/
def keccakTurnsWrong : ChangeSpec := { name := "keccakTurns", fn := fun _ => fun
  | [d] => { results := [.lit (.bool false)], args := [d] }
  | _ => none }
def KeccakTurnsWrongFalsely : Prop := keccakTurnsRow.holds Try.pinned (OpenSpec.ofChange keccakTurnsWrong)

/-- 'tollhouselaw04.MacMasks': WHATEVER THE INPUT: true; the input reads as it did. -/
def macMasksSpec : ChangeSpec := { name := "macMasks", fn := fun _ => fun
  | [d1, d2, d3] => { results := [.lit (.bool true)], args := [d1, d2, d3] }
  | _ => none }
def macMasksRow : OpenClaim := { program := "ytfmhlogapbpnbaa", sum := "f985dee9ce5cb3aa3b2dbddef9020334a1c2ad9afee18211dceacecec71cc3a1", func := "tollhouse/tollhouselaw04.MacMasks", spec := "macMasks", apart := false }
def MacMasksSaid : Prop := macMasksRow.holds Try.pinned (OpenSpec.ofChange macMasksSpec)

/-- ITS FALSE NEIGHBOUR: 'it returns false'. Refute it at one input. -/
def macMasksWrong : ChangeSpec := { name := "macMasks", fn := fun _ => fun
  | [d1, d2, d3] => { results := [.lit (.bool false)], args := [d1, d2, d3] }
  | _ => none }
def MacMasksWrongFalsely : Prop := macMasksRow.holds Try.pinned (OpenSpec.ofChange macMasksWrong)

/-- 'tollhouselaw04.MacParts': WHATEVER THE INPUT: true; the input reads as it did. -/
def macPartsSpec : ChangeSpec := { name := "macParts", fn := fun _ => fun
  | [d1, d2, d3] => { results := [.lit (.bool true)], args := [d1, d2, d3] }
  | _ => none }
def macPartsRow : OpenClaim := { program := "ytfmhlogapbpnbaa", sum := "f985dee9ce5cb3aa3b2dbddef9020334a1c2ad9afee18211dceacecec71cc3a1", func := "tollhouse/tollhouselaw04.MacParts", spec := "macParts", apart := false }
def MacPartsSaid : Prop := macPartsRow.holds Try.pinned (OpenSpec.ofChange macPartsSpec)

/-- ITS FALSE NEIGHBOUR: 'it returns false'. Refute it at one input. -/
def macPartsWrong : ChangeSpec := { name := "macParts", fn := fun _ => fun
  | [d1, d2, d3] => { results := [.lit (.bool false)], args := [d1, d2, d3] }
  | _ => none }
def MacPartsWrongFalsely : Prop := macPartsRow.holds Try.pinned (OpenSpec.ofChange macPartsWrong)

/-- 'tollhouselaw04.MacMaskEach': WHATEVER THE INPUT: true; the input reads as it did. -/
def macMaskEachSpec : ChangeSpec := { name := "macMaskEach", fn := fun _ => fun
  | [d1, d2, d3] => { results := [.lit (.bool true)], args := [d1, d2, d3] }
  | _ => none }
def macMaskEachRow : OpenClaim := { program := "ytfmhlogapbpnbaa", sum := "f985dee9ce5cb3aa3b2dbddef9020334a1c2ad9afee18211dceacecec71cc3a1", func := "tollhouse/tollhouselaw04.MacMaskEach", spec := "macMaskEach", apart := false }
def MacMaskEachSaid : Prop := macMaskEachRow.holds Try.pinned (OpenSpec.ofChange macMaskEachSpec)

/-- ITS FALSE NEIGHBOUR: 'it returns false'. Refute it at one input. -/
def macMaskEachWrong : ChangeSpec := { name := "macMaskEach", fn := fun _ => fun
  | [d1, d2, d3] => { results := [.lit (.bool false)], args := [d1, d2, d3] }
  | _ => none }
def MacMaskEachWrongFalsely : Prop := macMaskEachRow.holds Try.pinned (OpenSpec.ofChange macMaskEachWrong)

/-- 'tollhouselaw04.MacTags': WHATEVER THE INPUT: true; the input reads as it did. -/
def macTagsSpec : ChangeSpec := { name := "macTags", fn := fun _ => fun
  | [d1, d2, d3, d4] => { results := [.lit (.bool true)], args := [d1, d2, d3, d4] }
  | _ => none }
def macTagsRow : OpenClaim := { program := "ytfmhlogapbpnbaa", sum := "f985dee9ce5cb3aa3b2dbddef9020334a1c2ad9afee18211dceacecec71cc3a1", func := "tollhouse/tollhouselaw04.MacTags", spec := "macTags", apart := false }
def MacTagsSaid : Prop := macTagsRow.holds Try.pinned (OpenSpec.ofChange macTagsSpec)

/-- ITS FALSE NEIGHBOUR: 'it returns false'. Refute it at one input. -/
def macTagsWrong : ChangeSpec := { name := "macTags", fn := fun _ => fun
  | [d1, d2, d3, d4] => { results := [.lit (.bool false)], args := [d1, d2, d3, d4] }
  | _ => none }
def MacTagsWrongFalsely : Prop := macTagsRow.holds Try.pinned (OpenSpec.ofChange macTagsWrong)

/-- 'tollhouselaw04.MacEqual': WHATEVER THE INPUT: true; the input reads as it did. -/
def macEqualSpec : ChangeSpec := { name := "macEqual", fn := fun _ => fun
  | [d1, d2, d3] => { results := [.lit (.bool true)], args := [d1, d2, d3] }
  | _ => none }
def macEqualRow : OpenClaim := { program := "ytfmhlogapbpnbaa", sum := "f985dee9ce5cb3aa3b2dbddef9020334a1c2ad9afee18211dceacecec71cc3a1", func := "tollhouse/tollhouselaw04.MacEqual", spec := "macEqual", apart := false }
def MacEqualSaid : Prop := macEqualRow.holds Try.pinned (OpenSpec.ofChange macEqualSpec)

/-- ITS FALSE NEIGHBOUR: 'it returns false'. Refute it at one input. -/
def macEqualWrong : ChangeSpec := { name := "macEqual", fn := fun _ => fun
  | [d1, d2, d3] => { results := [.lit (.bool false)], args := [d1, d2, d3] }
  | _ => none }
def MacEqualWrongFalsely : Prop := macEqualRow.holds Try.pinned (OpenSpec.ofChange macEqualWrong)

/-- 'tollhouselaw04.MacBytes': WHATEVER THE INPUT: true; the input reads as it did. -/
def macBytesSpec : ChangeSpec := { name := "macBytes", fn := fun _ => fun
  | [d1, d2, d3] => { results := [.lit (.bool true)], args := [d1, d2, d3] }
  | _ => none }
def macBytesRow : OpenClaim := { program := "ytfmhlogapbpnbaa", sum := "f985dee9ce5cb3aa3b2dbddef9020334a1c2ad9afee18211dceacecec71cc3a1", func := "tollhouse/tollhouselaw04.MacBytes", spec := "macBytes", apart := false }
def MacBytesSaid : Prop := macBytesRow.holds Try.pinned (OpenSpec.ofChange macBytesSpec)

/-- ITS FALSE NEIGHBOUR: 'it returns false'. Refute it at one input. -/
def macBytesWrong : ChangeSpec := { name := "macBytes", fn := fun _ => fun
  | [d1, d2, d3] => { results := [.lit (.bool false)], args := [d1, d2, d3] }
  | _ => none }
def MacBytesWrongFalsely : Prop := macBytesRow.holds Try.pinned (OpenSpec.ofChange macBytesWrong)

/-- 'tollhouselaw08.ShareSplits': WHATEVER THE INPUT: true; the input reads as it did. -/
def shareSplitsSpec : ChangeSpec := { name := "shareSplits", fn := fun _ => fun
  | [d1, d2, d3] => { results := [.lit (.bool true)], args := [d1, d2, d3] }
  | _ => none }
def shareSplitsRow : OpenClaim := { program := "ytfmhlogapbpnbaa", sum := "f985dee9ce5cb3aa3b2dbddef9020334a1c2ad9afee18211dceacecec71cc3a1", func := "tollhouse/tollhouselaw08.ShareSplits", spec := "shareSplits", apart := false }
def ShareSplitsSaid : Prop := shareSplitsRow.holds Try.pinned (OpenSpec.ofChange shareSplitsSpec)

/-- ITS FALSE NEIGHBOUR: 'it returns false'. Refute it at one input. -/
def shareSplitsWrong : ChangeSpec := { name := "shareSplits", fn := fun _ => fun
  | [d1, d2, d3] => { results := [.lit (.bool false)], args := [d1, d2, d3] }
  | _ => none }
def ShareSplitsWrongFalsely : Prop := shareSplitsRow.holds Try.pinned (OpenSpec.ofChange shareSplitsWrong)

/-- 'tollhouselaw08.ShareLaws': WHATEVER THE INPUT: true; the input reads as it did. -/
def shareLawsSpec : ChangeSpec := { name := "shareLaws", fn := fun _ => fun
  | [d1, d2, d3] => { results := [.lit (.bool true)], args := [d1, d2, d3] }
  | _ => none }
def shareLawsRow : OpenClaim := { program := "ytfmhlogapbpnbaa", sum := "f985dee9ce5cb3aa3b2dbddef9020334a1c2ad9afee18211dceacecec71cc3a1", func := "tollhouse/tollhouselaw08.ShareLaws", spec := "shareLaws", apart := false }
def ShareLawsSaid : Prop := shareLawsRow.holds Try.pinned (OpenSpec.ofChange shareLawsSpec)

/-- ITS FALSE NEIGHBOUR: 'it returns false'. Refute it at one input. -/
def shareLawsWrong : ChangeSpec := { name := "shareLaws", fn := fun _ => fun
  | [d1, d2, d3] => { results := [.lit (.bool false)], args := [d1, d2, d3] }
  | _ => none }
def ShareLawsWrongFalsely : Prop := shareLawsRow.holds Try.pinned (OpenSpec.ofChange shareLawsWrong)

/-- 'tollhouselaw08.ShareParts': WHATEVER THE INPUT: true; the input reads as it did. -/
def sharePartsSpec : ChangeSpec := { name := "shareParts", fn := fun _ => fun
  | [d1, d2, d3, d4] => { results := [.lit (.bool true)], args := [d1, d2, d3, d4] }
  | _ => none }
def sharePartsRow : OpenClaim := { program := "ytfmhlogapbpnbaa", sum := "f985dee9ce5cb3aa3b2dbddef9020334a1c2ad9afee18211dceacecec71cc3a1", func := "tollhouse/tollhouselaw08.ShareParts", spec := "shareParts", apart := false }
def SharePartsSaid : Prop := sharePartsRow.holds Try.pinned (OpenSpec.ofChange sharePartsSpec)

/-- ITS FALSE NEIGHBOUR: 'it returns false'. Refute it at one input. -/
def sharePartsWrong : ChangeSpec := { name := "shareParts", fn := fun _ => fun
  | [d1, d2, d3, d4] => { results := [.lit (.bool false)], args := [d1, d2, d3, d4] }
  | _ => none }
def SharePartsWrongFalsely : Prop := sharePartsRow.holds Try.pinned (OpenSpec.ofChange sharePartsWrong)

/-- 'tollhouselaw08.ShareSets': WHATEVER THE INPUT: true; the input reads as it did. -/
def shareSetsSpec : ChangeSpec := { name := "shareSets", fn := fun _ => fun
  | [d1, d2, d3, d4, d5] => { results := [.lit (.bool true)], args := [d1, d2, d3, d4, d5] }
  | _ => none }
def shareSetsRow : OpenClaim := { program := "ytfmhlogapbpnbaa", sum := "f985dee9ce5cb3aa3b2dbddef9020334a1c2ad9afee18211dceacecec71cc3a1", func := "tollhouse/tollhouselaw08.ShareSets", spec := "shareSets", apart := false }
def ShareSetsSaid : Prop := shareSetsRow.holds Try.pinned (OpenSpec.ofChange shareSetsSpec)

/-- ITS FALSE NEIGHBOUR: 'it returns false'. Refute it at one input. -/
def shareSetsWrong : ChangeSpec := { name := "shareSets", fn := fun _ => fun
  | [d1, d2, d3, d4, d5] => { results := [.lit (.bool false)], args := [d1, d2, d3, d4, d5] }
  | _ => none }
def ShareSetsWrongFalsely : Prop := shareSetsRow.holds Try.pinned (OpenSpec.ofChange shareSetsWrong)

/-- 'tollhouselaw07.OnionBuilds': WHATEVER THE INPUT: true; the input reads as it did. -/
def onionBuildsSpec : ChangeSpec := { name := "onionBuilds", fn := fun _ => fun
  | [d1, d2, d3, d4] => { results := [.lit (.bool true)], args := [d1, d2, d3, d4] }
  | _ => none }
def onionBuildsRow : OpenClaim := { program := "ytfmhlogapbpnbaa", sum := "f985dee9ce5cb3aa3b2dbddef9020334a1c2ad9afee18211dceacecec71cc3a1", func := "tollhouse/tollhouselaw07.OnionBuilds", spec := "onionBuilds", unfollowed := true, recurses := true, apart := false }
def OnionBuildsSaid : Prop := onionBuildsRow.holds Try.pinned (OpenSpec.ofChange onionBuildsSpec)

/-- ITS FALSE NEIGHBOUR: 'it returns false'. Refute it at one input. -/
def onionBuildsWrong : ChangeSpec := { name := "onionBuilds", fn := fun _ => fun
  | [d1, d2, d3, d4] => { results := [.lit (.bool false)], args := [d1, d2, d3, d4] }
  | _ => none }
def OnionBuildsWrongFalsely : Prop := onionBuildsRow.holds Try.pinned (OpenSpec.ofChange onionBuildsWrong)

/-- 'tollhouselaw07.OnionTurned': WHATEVER THE INPUT: true; the input reads as it did. -/
def onionTurnedSpec : ChangeSpec := { name := "onionTurned", fn := fun _ => fun
  | [d1, d2, d3, d4, d5] => { results := [.lit (.bool true)], args := [d1, d2, d3, d4, d5] }
  | _ => none }
def onionTurnedRow : OpenClaim := { program := "ytfmhlogapbpnbaa", sum := "f985dee9ce5cb3aa3b2dbddef9020334a1c2ad9afee18211dceacecec71cc3a1", func := "tollhouse/tollhouselaw07.OnionTurned", spec := "onionTurned", unfollowed := true, recurses := true, apart := false }
def OnionTurnedSaid : Prop := onionTurnedRow.holds Try.pinned (OpenSpec.ofChange onionTurnedSpec)

/-- ITS FALSE NEIGHBOUR: 'it returns false'. Refute it at one input. -/
def onionTurnedWrong : ChangeSpec := { name := "onionTurned", fn := fun _ => fun
  | [d1, d2, d3, d4, d5] => { results := [.lit (.bool false)], args := [d1, d2, d3, d4, d5] }
  | _ => none }
def OnionTurnedWrongFalsely : Prop := onionTurnedRow.holds Try.pinned (OpenSpec.ofChange onionTurnedWrong)

/-- 'tollhouselaw07.OnionSizes': WHATEVER THE INPUT: true; the input reads as it did. -/
def onionSizesSpec : ChangeSpec := { name := "onionSizes", fn := fun _ => fun
  | [d1, d2, d3, d4] => { results := [.lit (.bool true)], args := [d1, d2, d3, d4] }
  | _ => none }
def onionSizesRow : OpenClaim := { program := "ytfmhlogapbpnbaa", sum := "f985dee9ce5cb3aa3b2dbddef9020334a1c2ad9afee18211dceacecec71cc3a1", func := "tollhouse/tollhouselaw07.OnionSizes", spec := "onionSizes", unfollowed := true, recurses := true, apart := false }
def OnionSizesSaid : Prop := onionSizesRow.holds Try.pinned (OpenSpec.ofChange onionSizesSpec)

/-- ITS FALSE NEIGHBOUR: 'it returns false'. Refute it at one input. -/
def onionSizesWrong : ChangeSpec := { name := "onionSizes", fn := fun _ => fun
  | [d1, d2, d3, d4] => { results := [.lit (.bool false)], args := [d1, d2, d3, d4] }
  | _ => none }
def OnionSizesWrongFalsely : Prop := onionSizesRow.holds Try.pinned (OpenSpec.ofChange onionSizesWrong)

/-- 'tollhouselaw07.OnionWays': WHATEVER THE INPUT: true; the input reads as it did. -/
def onionWaysSpec : ChangeSpec := { name := "onionWays", fn := fun _ => fun
  | [d1, d2, d3, d4] => { results := [.lit (.bool true)], args := [d1, d2, d3, d4] }
  | _ => none }
def onionWaysRow : OpenClaim := { program := "ytfmhlogapbpnbaa", sum := "f985dee9ce5cb3aa3b2dbddef9020334a1c2ad9afee18211dceacecec71cc3a1", func := "tollhouse/tollhouselaw07.OnionWays", spec := "onionWays", unfollowed := true, recurses := true, apart := false }
def OnionWaysSaid : Prop := onionWaysRow.holds Try.pinned (OpenSpec.ofChange onionWaysSpec)

/-- ITS FALSE NEIGHBOUR: 'it returns false'. Refute it at one input. -/
def onionWaysWrong : ChangeSpec := { name := "onionWays", fn := fun _ => fun
  | [d1, d2, d3, d4] => { results := [.lit (.bool false)], args := [d1, d2, d3, d4] }
  | _ => none }
def OnionWaysWrongFalsely : Prop := onionWaysRow.holds Try.pinned (OpenSpec.ofChange onionWaysWrong)

/- THE SECOND FORM. 'bulk': how many values and letters a reading holds, each counted each time it is reached (what is shared counts as often as it is met; a slice's spare places count too). A statement '..UptoSaid' is the law's where the arguments, and the package variables that the reading takes, are together of bulk at most 1048576: NARROWER than '..Said'. Prove '..Said' where nothing that the law and all that it calls make is longer than what came in: it says more and counts as full. Else prove '..UptoSaid'. A law counts once. -/
mutual
def uptoBulk {H : Type} : DataW H → Nat
  | .lit (.string bytes) => bytes.length + 1
  | .lit _ => 1
  | .nil => 1
  | .ptr d => uptoBulk d + 1
  | .slice elems spare => uptoBulkAll elems + uptoBulkAll spare + 1
  | .agg parts => uptoBulkAll parts + 1
  | .iface _ d => uptoBulk d + 1
  | .map entries => uptoBulkEntries entries + 1
  | .held _ => 1
def uptoBulkAll {H : Type} : List (DataW H) → Nat
  | [] => 0
  | d :: r => uptoBulk d + uptoBulkAll r
def uptoBulkEntries {H : Type} : List (Lit × DataW H) → Nat
  | [] => 0
  | x :: r => uptoBulkEntry x + uptoBulkEntries r
def uptoBulkEntry {H : Type} : Lit × DataW H → Nat
  | (.string bytes, d) => bytes.length + uptoBulk d + 1
  | (_, d) => uptoBulk d + 1
 end
def uptoSmall : (H : Type) → List (DataW H) → Bool := fun _ ds => decide (uptoBulkAll ds ≤ 1048576)
def OpenSpec.upto (s : _root_.Go.ChangeSpec) : _root_.Go.OpenSpec := { _root_.Go.OpenSpec.ofChange s with cond := some uptoSmall }

/-- 'tollhouselaw03.KeccakSums', WHERE WHAT IT READS IS OF BULK AT MOST 1048576: true; the input reads as it did. -/
def keccakSumsUptoRow : OpenClaim := { program := "ytfmhlogapbpnbaa", sum := "f985dee9ce5cb3aa3b2dbddef9020334a1c2ad9afee18211dceacecec71cc3a1", func := "tollhouse/tollhouselaw03.KeccakSums", spec := "keccakSums", apart := false, narrowed := true }
def KeccakSumsUptoSaid : Prop := keccakSumsUptoRow.holds Try.pinned (OpenSpec.upto keccakSumsSpec)

/-- 'tollhouselaw03.KeccakStreams', WHERE WHAT IT READS IS OF BULK AT MOST 1048576: true; the input reads as it did. -/
def keccakStreamsUptoRow : OpenClaim := { program := "ytfmhlogapbpnbaa", sum := "f985dee9ce5cb3aa3b2dbddef9020334a1c2ad9afee18211dceacecec71cc3a1", func := "tollhouse/tollhouselaw03.KeccakStreams", spec := "keccakStreams", apart := false, narrowed := true }
def KeccakStreamsUptoSaid : Prop := keccakStreamsUptoRow.holds Try.pinned (OpenSpec.upto keccakStreamsSpec)

/-- 'tollhouselaw03.KeccakLengths', WHERE WHAT IT READS IS OF BULK AT MOST 1048576: true; the input reads as it did. -/
def keccakLengthsUptoRow : OpenClaim := { program := "ytfmhlogapbpnbaa", sum := "f985dee9ce5cb3aa3b2dbddef9020334a1c2ad9afee18211dceacecec71cc3a1", func := "tollhouse/tollhouselaw03.KeccakLengths", spec := "keccakLengths", apart := false, narrowed := true }
def KeccakLengthsUptoSaid : Prop := keccakLengthsUptoRow.holds Try.pinned (OpenSpec.upto keccakLengthsSpec)

/-- 'tollhouselaw03.KeccakPieces', WHERE WHAT IT READS IS OF BULK AT MOST 1048576: true; the input reads as it did. -/
def keccakPiecesUptoRow : OpenClaim := { program := "ytfmhlogapbpnbaa", sum := "f985dee9ce5cb3aa3b2dbddef9020334a1c2ad9afee18211dceacecec71cc3a1", func := "tollhouse/tollhouselaw03.KeccakPieces", spec := "keccakPieces", apart := false, narrowed := true }
def KeccakPiecesUptoSaid : Prop := keccakPiecesUptoRow.holds Try.pinned (OpenSpec.upto keccakPiecesSpec)

/-- 'tollhouselaw03.KeccakParts', WHERE WHAT IT READS IS OF BULK AT MOST 1048576: true; the input reads as it did. -/
def keccakPartsUptoRow : OpenClaim := { program := "ytfmhlogapbpnbaa", sum := "f985dee9ce5cb3aa3b2dbddef9020334a1c2ad9afee18211dceacecec71cc3a1", func := "tollhouse/tollhouselaw03.KeccakParts", spec := "keccakParts", apart := false, narrowed := true }
def KeccakPartsUptoSaid : Prop := keccakPartsUptoRow.holds Try.pinned (OpenSpec.upto keccakPartsSpec)

/-- 'tollhouselaw03.KeccakRounds', WHERE WHAT IT READS IS OF BULK AT MOST 1048576: true; the input reads as it did. -/
def keccakRoundsUptoRow : OpenClaim := { program := "ytfmhlogapbpnbaa", sum := "f985dee9ce5cb3aa3b2dbddef9020334a1c2ad9afee18211dceacecec71cc3a1", func := "tollhouse/tollhouselaw03.KeccakRounds", spec := "keccakRounds", apart := false, narrowed := true }
def KeccakRoundsUptoSaid : Prop := keccakRoundsUptoRow.holds Try.pinned (OpenSpec.upto keccakRoundsSpec)

/-- 'tollhouselaw03.KeccakTurns', WHERE WHAT IT READS IS OF BULK AT MOST 1048576: true; the input reads as it did. -/
def keccakTurnsUptoRow : OpenClaim := { program := "ytfmhlogapbpnbaa", sum := "f985dee9ce5cb3aa3b2dbddef9020334a1c2ad9afee18211dceacecec71cc3a1", func := "tollhouse/tollhouselaw03.KeccakTurns", spec := "keccakTurns", apart := false, narrowed := true }
def KeccakTurnsUptoSaid : Prop := keccakTurnsUptoRow.holds Try.pinned (OpenSpec.upto keccakTurnsSpec)

/-- 'tollhouselaw04.MacMasks', WHERE WHAT IT READS IS OF BULK AT MOST 1048576: true; the input reads as it did. -/
def macMasksUptoRow : OpenClaim := { program := "ytfmhlogapbpnbaa", sum := "f985dee9ce5cb3aa3b2dbddef9020334a1c2ad9afee18211dceacecec71cc3a1", func := "tollhouse/tollhouselaw04.MacMasks", spec := "macMasks", apart := false, narrowed := true }
def MacMasksUptoSaid : Prop := macMasksUptoRow.holds Try.pinned (OpenSpec.upto macMasksSpec)

/-- 'tollhouselaw04.MacParts', WHERE WHAT IT READS IS OF BULK AT MOST 1048576: true; the input reads as it did. -/
def macPartsUptoRow : OpenClaim := { program := "ytfmhlogapbpnbaa", sum := "f985dee9ce5cb3aa3b2dbddef9020334a1c2ad9afee18211dceacecec71cc3a1", func := "tollhouse/tollhouselaw04.MacParts", spec := "macParts", apart := false, narrowed := true }
def MacPartsUptoSaid : Prop := macPartsUptoRow.holds Try.pinned (OpenSpec.upto macPartsSpec)

/-- 'tollhouselaw04.MacMaskEach', WHERE WHAT IT READS IS OF BULK AT MOST 1048576: true; the input reads as it did. -/
def macMaskEachUptoRow : OpenClaim := { program := "ytfmhlogapbpnbaa", sum := "f985dee9ce5cb3aa3b2dbddef9020334a1c2ad9afee18211dceacecec71cc3a1", func := "tollhouse/tollhouselaw04.MacMaskEach", spec := "macMaskEach", apart := false, narrowed := true }
def MacMaskEachUptoSaid : Prop := macMaskEachUptoRow.holds Try.pinned (OpenSpec.upto macMaskEachSpec)

/-- 'tollhouselaw04.MacTags', WHERE WHAT IT READS IS OF BULK AT MOST 1048576: true; the input reads as it did. -/
def macTagsUptoRow : OpenClaim := { program := "ytfmhlogapbpnbaa", sum := "f985dee9ce5cb3aa3b2dbddef9020334a1c2ad9afee18211dceacecec71cc3a1", func := "tollhouse/tollhouselaw04.MacTags", spec := "macTags", apart := false, narrowed := true }
def MacTagsUptoSaid : Prop := macTagsUptoRow.holds Try.pinned (OpenSpec.upto macTagsSpec)

/-- 'tollhouselaw04.MacEqual', WHERE WHAT IT READS IS OF BULK AT MOST 1048576: true; the input reads as it did. -/
def macEqualUptoRow : OpenClaim := { program := "ytfmhlogapbpnbaa", sum := "f985dee9ce5cb3aa3b2dbddef9020334a1c2ad9afee18211dceacecec71cc3a1", func := "tollhouse/tollhouselaw04.MacEqual", spec := "macEqual", apart := false, narrowed := true }
def MacEqualUptoSaid : Prop := macEqualUptoRow.holds Try.pinned (OpenSpec.upto macEqualSpec)

/-- 'tollhouselaw04.MacBytes', WHERE WHAT IT READS IS OF BULK AT MOST 1048576: true; the input reads as it did. -/
def macBytesUptoRow : OpenClaim := { program := "ytfmhlogapbpnbaa", sum := "f985dee9ce5cb3aa3b2dbddef9020334a1c2ad9afee18211dceacecec71cc3a1", func := "tollhouse/tollhouselaw04.MacBytes", spec := "macBytes", apart := false, narrowed := true }
def MacBytesUptoSaid : Prop := macBytesUptoRow.holds Try.pinned (OpenSpec.upto macBytesSpec)

/-- 'tollhouselaw08.ShareSplits', WHERE WHAT IT READS IS OF BULK AT MOST 1048576: true; the input reads as it did. -/
def shareSplitsUptoRow : OpenClaim := { program := "ytfmhlogapbpnbaa", sum := "f985dee9ce5cb3aa3b2dbddef9020334a1c2ad9afee18211dceacecec71cc3a1", func := "tollhouse/tollhouselaw08.ShareSplits", spec := "shareSplits", apart := false, narrowed := true }
def ShareSplitsUptoSaid : Prop := shareSplitsUptoRow.holds Try.pinned (OpenSpec.upto shareSplitsSpec)

/-- 'tollhouselaw08.ShareLaws', WHERE WHAT IT READS IS OF BULK AT MOST 1048576: true; the input reads as it did. -/
def shareLawsUptoRow : OpenClaim := { program := "ytfmhlogapbpnbaa", sum := "f985dee9ce5cb3aa3b2dbddef9020334a1c2ad9afee18211dceacecec71cc3a1", func := "tollhouse/tollhouselaw08.ShareLaws", spec := "shareLaws", apart := false, narrowed := true }
def ShareLawsUptoSaid : Prop := shareLawsUptoRow.holds Try.pinned (OpenSpec.upto shareLawsSpec)

/-- 'tollhouselaw08.ShareParts', WHERE WHAT IT READS IS OF BULK AT MOST 1048576: true; the input reads as it did. -/
def sharePartsUptoRow : OpenClaim := { program := "ytfmhlogapbpnbaa", sum := "f985dee9ce5cb3aa3b2dbddef9020334a1c2ad9afee18211dceacecec71cc3a1", func := "tollhouse/tollhouselaw08.ShareParts", spec := "shareParts", apart := false, narrowed := true }
def SharePartsUptoSaid : Prop := sharePartsUptoRow.holds Try.pinned (OpenSpec.upto sharePartsSpec)

/-- 'tollhouselaw08.ShareSets', WHERE WHAT IT READS IS OF BULK AT MOST 1048576: true; the input reads as it did. -/
def shareSetsUptoRow : OpenClaim := { program := "ytfmhlogapbpnbaa", sum := "f985dee9ce5cb3aa3b2dbddef9020334a1c2ad9afee18211dceacecec71cc3a1", func := "tollhouse/tollhouselaw08.ShareSets", spec := "shareSets", apart := false, narrowed := true }
def ShareSetsUptoSaid : Prop := shareSetsUptoRow.holds Try.pinned (OpenSpec.upto shareSetsSpec)

/-- 'tollhouselaw07.OnionBuilds', WHERE WHAT IT READS IS OF BULK AT MOST 1048576: true; the input reads as it did. -/
def onionBuildsUptoRow : OpenClaim := { program := "ytfmhlogapbpnbaa", sum := "f985dee9ce5cb3aa3b2dbddef9020334a1c2ad9afee18211dceacecec71cc3a1", func := "tollhouse/tollhouselaw07.OnionBuilds", spec := "onionBuilds", unfollowed := true, recurses := true, apart := false, narrowed := true }
def OnionBuildsUptoSaid : Prop := onionBuildsUptoRow.holds Try.pinned (OpenSpec.upto onionBuildsSpec)

/-- 'tollhouselaw07.OnionTurned', WHERE WHAT IT READS IS OF BULK AT MOST 1048576: true; the input reads as it did. -/
def onionTurnedUptoRow : OpenClaim := { program := "ytfmhlogapbpnbaa", sum := "f985dee9ce5cb3aa3b2dbddef9020334a1c2ad9afee18211dceacecec71cc3a1", func := "tollhouse/tollhouselaw07.OnionTurned", spec := "onionTurned", unfollowed := true, recurses := true, apart := false, narrowed := true }
def OnionTurnedUptoSaid : Prop := onionTurnedUptoRow.holds Try.pinned (OpenSpec.upto onionTurnedSpec)

/-- 'tollhouselaw07.OnionSizes', WHERE WHAT IT READS IS OF BULK AT MOST 1048576: true; the input reads as it did. -/
def onionSizesUptoRow : OpenClaim := { program := "ytfmhlogapbpnbaa", sum := "f985dee9ce5cb3aa3b2dbddef9020334a1c2ad9afee18211dceacecec71cc3a1", func := "tollhouse/tollhouselaw07.OnionSizes", spec := "onionSizes", unfollowed := true, recurses := true, apart := false, narrowed := true }
def OnionSizesUptoSaid : Prop := onionSizesUptoRow.holds Try.pinned (OpenSpec.upto onionSizesSpec)

/-- 'tollhouselaw07.OnionWays', WHERE WHAT IT READS IS OF BULK AT MOST 1048576: true; the input reads as it did. -/
def onionWaysUptoRow : OpenClaim := { program := "ytfmhlogapbpnbaa", sum := "f985dee9ce5cb3aa3b2dbddef9020334a1c2ad9afee18211dceacecec71cc3a1", func := "tollhouse/tollhouselaw07.OnionWays", spec := "onionWays", unfollowed := true, recurses := true, apart := false, narrowed := true }
def OnionWaysUptoSaid : Prop := onionWaysUptoRow.holds Try.pinned (OpenSpec.upto onionWaysSpec)

end Rows
end Go.Proofs.Ytfmhlogapbpnbaa
