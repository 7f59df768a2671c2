/-
  No cell of these rows narrows 'for every input' (looked for: loops, veiled, ifaces, maps, wideKeys, modest, calm, conditions, laid).
  DERIVED. THE GIVEN ROWS OF THIS SEAT. 8 by the template 'for every input the law returns true; each argument reads behind the call as it read before'; 0 by the template 'total and deterministic' (their statements: YtbjecpcmbjjfaaaTotals.lean).
  GIVEN WITH THE SEED: the statements are not yours to turn. If you find one false, say at which input.
  Laid BY PROGRAM, IN A SANDBOX (cutbox-rows.mjs): the forced cells as the released guide's own fill.sh prints them over the translation 8a53d42ed62ff62e… (all of the seat's roots in one cut). By AI agents, Wed Nov 11 2026. No macro, syntax, notation, axiom, sorry.
-/
import Derived.Test.YtbjecpcmbjjfaaaChecked
import GoSem.Claim
import GoSem.ClaimJoined
import GoSem.ClaimMapViews
import Derived.JoinedTies
import Derived.KernelRfl
namespace Go.Proofs.Ytbjecpcmbjjfaaa
/- THE CELL 'sum', in the pinned program and in every row, IS THE sha256 OF THE DUMP (.gsa) THAT YtbjecpcmbjjfaaaProg.lean LOADS. Nothing in Lean hashes anything: it is a label: what it is worth is what the hold of that sum in a sandbox is worth. -/
noncomputable def Try.pinned : Pinned := { name := "ytbjecpcmbjjfaaa", sum := "8a53d42ed62ff62eaf83789a54a9ef64dc2da3686f8f215d7fed388cc0c6abab", checked := Try.checked }
namespace Rows
def none {H : Type} : Left H := { results := [], args := [] }

/-- 'tollhouselaw21.ScoreOrders': WHATEVER THE INPUT: true; the input reads as it did. -/
def scoreOrdersSpec : ChangeSpec := { name := "scoreOrders", fn := fun _ => fun
  | [d1, d2, d3] => { results := [.lit (.bool true)], args := [d1, d2, d3] }
  | _ => none }
def scoreOrdersRow : OpenClaim := { program := "ytbjecpcmbjjfaaa", sum := "8a53d42ed62ff62eaf83789a54a9ef64dc2da3686f8f215d7fed388cc0c6abab", func := "tollhouse/tollhouselaw21.ScoreOrders", spec := "scoreOrders", inPlace := ["math.Float64bits", "math.Float64frombits"], apart := false }
def ScoreOrdersSaid : Prop := scoreOrdersRow.holds Try.pinned (OpenSpec.ofChange scoreOrdersSpec)

/-- ITS FALSE NEIGHBOUR: 'it returns false'. Refute it at one input. -/
def scoreOrdersWrong : ChangeSpec := { name := "scoreOrders", fn := fun _ => fun
  | [d1, d2, d3] => { results := [.lit (.bool false)], args := [d1, d2, d3] }
  | _ => none }
def ScoreOrdersWrongFalsely : Prop := scoreOrdersRow.holds Try.pinned (OpenSpec.ofChange scoreOrdersWrong)

/-- 'tollhouselaw21.ScoreForgets': WHATEVER THE INPUT: true; the input reads as it did. -/
def scoreForgetsSpec : ChangeSpec := { name := "scoreForgets", fn := fun _ => fun
  | [d1, d2] => { results := [.lit (.bool true)], args := [d1, d2] }
  | _ => none }
def scoreForgetsRow : OpenClaim := { program := "ytbjecpcmbjjfaaa", sum := "8a53d42ed62ff62eaf83789a54a9ef64dc2da3686f8f215d7fed388cc0c6abab", func := "tollhouse/tollhouselaw21.ScoreForgets", spec := "scoreForgets", inPlace := ["math.Float64bits", "math.Float64frombits"], apart := false }
def ScoreForgetsSaid : Prop := scoreForgetsRow.holds Try.pinned (OpenSpec.ofChange scoreForgetsSpec)

/-- ITS FALSE NEIGHBOUR: 'it returns false'. Refute it at one input. -/
def scoreForgetsWrong : ChangeSpec := { name := "scoreForgets", fn := fun _ => fun
  | [d1, d2] => { results := [.lit (.bool false)], args := [d1, d2] }
  | _ => none }
def ScoreForgetsWrongFalsely : Prop := scoreForgetsRow.holds Try.pinned (OpenSpec.ofChange scoreForgetsWrong)

/-- 'tollhouselaw21.ScoreDear': WHATEVER THE INPUT: true; the input reads as it did. -/
def scoreDearSpec : ChangeSpec := { name := "scoreDear", fn := fun _ => fun
  | [d1, d2, d3, d4, d5] => { results := [.lit (.bool true)], args := [d1, d2, d3, d4, d5] }
  | _ => none }
def scoreDearRow : OpenClaim := { program := "ytbjecpcmbjjfaaa", sum := "8a53d42ed62ff62eaf83789a54a9ef64dc2da3686f8f215d7fed388cc0c6abab", func := "tollhouse/tollhouselaw21.ScoreDear", spec := "scoreDear", inPlace := ["math.Float64bits", "math.Float64frombits"], apart := false }
def ScoreDearSaid : Prop := scoreDearRow.holds Try.pinned (OpenSpec.ofChange scoreDearSpec)

/-- ITS FALSE NEIGHBOUR: 'it returns false'. Refute it at one input. -/
def scoreDearWrong : ChangeSpec := { name := "scoreDear", fn := fun _ => fun
  | [d1, d2, d3, d4, d5] => { results := [.lit (.bool false)], args := [d1, d2, d3, d4, d5] }
  | _ => none }
def ScoreDearWrongFalsely : Prop := scoreDearRow.holds Try.pinned (OpenSpec.ofChange scoreDearWrong)

/-- 'tollhouselaw21.ScoreCosts': WHATEVER THE INPUT: true; the input reads as it did. -/
def scoreCostsSpec : ChangeSpec := { name := "scoreCosts", fn := fun _ => fun
  | [d1, d2, d3, d4] => { results := [.lit (.bool true)], args := [d1, d2, d3, d4] }
  | _ => none }
def scoreCostsRow : OpenClaim := { program := "ytbjecpcmbjjfaaa", sum := "8a53d42ed62ff62eaf83789a54a9ef64dc2da3686f8f215d7fed388cc0c6abab", func := "tollhouse/tollhouselaw21.ScoreCosts", spec := "scoreCosts", inPlace := ["math.Float64bits", "math.Float64frombits"], apart := false }
def ScoreCostsSaid : Prop := scoreCostsRow.holds Try.pinned (OpenSpec.ofChange scoreCostsSpec)

/-- ITS FALSE NEIGHBOUR: 'it returns false'. Refute it at one input. -/
def scoreCostsWrong : ChangeSpec := { name := "scoreCosts", fn := fun _ => fun
  | [d1, d2, d3, d4] => { results := [.lit (.bool false)], args := [d1, d2, d3, d4] }
  | _ => none }
def ScoreCostsWrongFalsely : Prop := scoreCostsRow.holds Try.pinned (OpenSpec.ofChange scoreCostsWrong)

/-- 'tollhouselaw21.ScoreJoins': WHATEVER THE INPUT: true; the input reads as it did. -/
def scoreJoinsSpec : ChangeSpec := { name := "scoreJoins", fn := fun _ => fun
  | [d] => { results := [.lit (.bool true)], args := [d] }
  | _ => none }
def scoreJoinsRow : OpenClaim := { program := "ytbjecpcmbjjfaaa", sum := "8a53d42ed62ff62eaf83789a54a9ef64dc2da3686f8f215d7fed388cc0c6abab", func := "tollhouse/tollhouselaw21.ScoreJoins", spec := "scoreJoins", inPlace := ["math.Float64bits", "math.Float64frombits"], apart := false }
def ScoreJoinsSaid : Prop := scoreJoinsRow.holds Try.pinned (OpenSpec.ofChange scoreJoinsSpec)

/-- ITS FALSE NEIGHBOUR: 'it returns false'. Refute it at one input. -/
def scoreJoinsWrong : ChangeSpec := { name := "scoreJoins", fn := fun _ => fun
  | [d] => { results := [.lit (.bool false)], args := [d] }
  | _ => none }
def ScoreJoinsWrongFalsely : Prop := scoreJoinsRow.holds Try.pinned (OpenSpec.ofChange scoreJoinsWrong)

/-- 'tollhouselaw21.ScoreLearns': WHATEVER THE INPUT: true; the input reads as it did. -/
def scoreLearnsSpec : ChangeSpec := { name := "scoreLearns", fn := fun _ => fun
  | [d1, d2, d3] => { results := [.lit (.bool true)], args := [d1, d2, d3] }
  | _ => none }
def scoreLearnsRow : OpenClaim := { program := "ytbjecpcmbjjfaaa", sum := "8a53d42ed62ff62eaf83789a54a9ef64dc2da3686f8f215d7fed388cc0c6abab", func := "tollhouse/tollhouselaw21.ScoreLearns", spec := "scoreLearns", inPlace := ["math.Float64bits", "math.Float64frombits"], apart := false }
def ScoreLearnsSaid : Prop := scoreLearnsRow.holds Try.pinned (OpenSpec.ofChange scoreLearnsSpec)

/-- ITS FALSE NEIGHBOUR: 'it returns false'. Refute it at one input. -/
def scoreLearnsWrong : ChangeSpec := { name := "scoreLearns", fn := fun _ => fun
  | [d1, d2, d3] => { results := [.lit (.bool false)], args := [d1, d2, d3] }
  | _ => none }
def ScoreLearnsWrongFalsely : Prop := scoreLearnsRow.holds Try.pinned (OpenSpec.ofChange scoreLearnsWrong)

/-- 'tollhouselaw21.ScoreChances': WHATEVER THE INPUT: true; the input reads as it did. -/
def scoreChancesSpec : ChangeSpec := { name := "scoreChances", fn := fun _ => fun
  | [d1, d2, d3, d4, d5] => { results := [.lit (.bool true)], args := [d1, d2, d3, d4, d5] }
  | _ => none }
def scoreChancesRow : OpenClaim := { program := "ytbjecpcmbjjfaaa", sum := "8a53d42ed62ff62eaf83789a54a9ef64dc2da3686f8f215d7fed388cc0c6abab", func := "tollhouse/tollhouselaw21.ScoreChances", spec := "scoreChances", inPlace := ["math.Float64bits", "math.Float64frombits"], apart := false }
def ScoreChancesSaid : Prop := scoreChancesRow.holds Try.pinned (OpenSpec.ofChange scoreChancesSpec)

/-- ITS FALSE NEIGHBOUR: 'it returns false'. Refute it at one input. -/
def scoreChancesWrong : ChangeSpec := { name := "scoreChances", fn := fun _ => fun
  | [d1, d2, d3, d4, d5] => { results := [.lit (.bool false)], args := [d1, d2, d3, d4, d5] }
  | _ => none }
def ScoreChancesWrongFalsely : Prop := scoreChancesRow.holds Try.pinned (OpenSpec.ofChange scoreChancesWrong)

/-- 'tollhouselaw21.ScoreRanges': WHATEVER THE INPUT: true; the input reads as it did. -/
def scoreRangesSpec : ChangeSpec := { name := "scoreRanges", fn := fun _ => fun
  | [d1, d2, d3, d4, d5] => { results := [.lit (.bool true)], args := [d1, d2, d3, d4, d5] }
  | _ => none }
def scoreRangesRow : OpenClaim := { program := "ytbjecpcmbjjfaaa", sum := "8a53d42ed62ff62eaf83789a54a9ef64dc2da3686f8f215d7fed388cc0c6abab", func := "tollhouse/tollhouselaw21.ScoreRanges", spec := "scoreRanges", inPlace := ["math.Float64bits", "math.Float64frombits"], apart := false }
def ScoreRangesSaid : Prop := scoreRangesRow.holds Try.pinned (OpenSpec.ofChange scoreRangesSpec)

/-- ITS FALSE NEIGHBOUR: 'it returns false'. Refute it at one input. -/
def scoreRangesWrong : ChangeSpec := { name := "scoreRanges", fn := fun _ => fun
  | [d1, d2, d3, d4, d5] => { results := [.lit (.bool false)], args := [d1, d2, d3, d4, d5] }
  | _ => none }
def ScoreRangesWrongFalsely : Prop := scoreRangesRow.holds Try.pinned (OpenSpec.ofChange scoreRangesWrong)

/- THE SECOND FORM. 'bulk': how many values and letters a reading holds, each counted each time it is reached (what is shared counts as often as it is met; a slice's spare places count too). A statement '..UptoSaid' is the law's where the arguments, and the package variables that the reading takes, are together of bulk at most 1048576: NARROWER than '..Said'. Prove '..Said' where nothing that the law and all that it calls make is longer than what came in: it says more and counts as full. Else prove '..UptoSaid'. A law counts once. -/
mutual
def uptoBulk {H : Type} : DataW H → Nat
  | .lit (.string bytes) => bytes.length + 1
  | .lit _ => 1
  | .nil => 1
  | .ptr d => uptoBulk d + 1
  | .slice elems spare => uptoBulkAll elems + uptoBulkAll spare + 1
  | .agg parts => uptoBulkAll parts + 1
  | .iface _ d => uptoBulk d + 1
  | .map entries => uptoBulkEntries entries + 1
  | .held _ => 1
def uptoBulkAll {H : Type} : List (DataW H) → Nat
  | [] => 0
  | d :: r => uptoBulk d + uptoBulkAll r
def uptoBulkEntries {H : Type} : List (Lit × DataW H) → Nat
  | [] => 0
  | x :: r => uptoBulkEntry x + uptoBulkEntries r
def uptoBulkEntry {H : Type} : Lit × DataW H → Nat
  | (.string bytes, d) => bytes.length + uptoBulk d + 1
  | (_, d) => uptoBulk d + 1
 end
def uptoSmall : (H : Type) → List (DataW H) → Bool := fun _ ds => decide (uptoBulkAll ds ≤ 1048576)
def OpenSpec.upto (s : _root_.Go.ChangeSpec) : _root_.Go.OpenSpec := { _root_.Go.OpenSpec.ofChange s with cond := some uptoSmall }

/-- 'tollhouselaw21.ScoreOrders', WHERE WHAT IT READS IS OF BULK AT MOST 1048576: true; the input reads as it did. -/
def scoreOrdersUptoRow : OpenClaim := { program := "ytbjecpcmbjjfaaa", sum := "8a53d42ed62ff62eaf83789a54a9ef64dc2da3686f8f215d7fed388cc0c6abab", func := "tollhouse/tollhouselaw21.ScoreOrders", spec := "scoreOrders", inPlace := ["math.Float64bits", "math.Float64frombits"], apart := false, narrowed := true }
def ScoreOrdersUptoSaid : Prop := scoreOrdersUptoRow.holds Try.pinned (OpenSpec.upto scoreOrdersSpec)

/-- 'tollhouselaw21.ScoreForgets', WHERE WHAT IT READS IS OF BULK AT MOST 1048576: true; the input reads as it did. -/
def scoreForgetsUptoRow : OpenClaim := { program := "ytbjecpcmbjjfaaa", sum := "8a53d42ed62ff62eaf83789a54a9ef64dc2da3686f8f215d7fed388cc0c6abab", func := "tollhouse/tollhouselaw21.ScoreForgets", spec := "scoreForgets", inPlace := ["math.Float64bits", "math.Float64frombits"], apart := false, narrowed := true }
def ScoreForgetsUptoSaid : Prop := scoreForgetsUptoRow.holds Try.pinned (OpenSpec.upto scoreForgetsSpec)

/-- 'tollhouselaw21.ScoreDear', WHERE WHAT IT READS IS OF BULK AT MOST 1048576: true; the input reads as it did. -/
def scoreDearUptoRow : OpenClaim := { program := "ytbjecpcmbjjfaaa", sum := "8a53d42ed62ff62eaf83789a54a9ef64dc2da3686f8f215d7fed388cc0c6abab", func := "tollhouse/tollhouselaw21.ScoreDear", spec := "scoreDear", inPlace := ["math.Float64bits", "math.Float64frombits"], apart := false, narrowed := true }
def ScoreDearUptoSaid : Prop := scoreDearUptoRow.holds Try.pinned (OpenSpec.upto scoreDearSpec)

/-- 'tollhouselaw21.ScoreCosts', WHERE WHAT IT READS IS OF BULK AT MOST 1048576: true; the input reads as it did. -/
def scoreCostsUptoRow : OpenClaim := { program := "ytbjecpcmbjjfaaa", sum := "8a53d42ed62ff62eaf83789a54a9ef64dc2da3686f8f215d7fed388cc0c6abab", func := "tollhouse/tollhouselaw21.ScoreCosts", spec := "scoreCosts", inPlace := ["math.Float64bits", "math.Float64frombits"], apart := false, narrowed := true }
def ScoreCostsUptoSaid : Prop := scoreCostsUptoRow.holds Try.pinned (OpenSpec.upto scoreCostsSpec)

/-- 'tollhouselaw21.ScoreJoins', WHERE WHAT IT READS IS OF BULK AT MOST 1048576: true; the input reads as it did. -/
def scoreJoinsUptoRow : OpenClaim := { program := "ytbjecpcmbjjfaaa", sum := "8a53d42ed62ff62eaf83789a54a9ef64dc2da3686f8f215d7fed388cc0c6abab", func := "tollhouse/tollhouselaw21.ScoreJoins", spec := "scoreJoins", inPlace := ["math.Float64bits", "math.Float64frombits"], apart := false, narrowed := true }
def ScoreJoinsUptoSaid : Prop := scoreJoinsUptoRow.holds Try.pinned (OpenSpec.upto scoreJoinsSpec)

/-- 'tollhouselaw21.ScoreLearns', WHERE WHAT IT READS IS OF BULK AT MOST 1048576: true; the input reads as it did. -/
def scoreLearnsUptoRow : OpenClaim := { program := "ytbjecpcmbjjfaaa", sum := "8a53d42ed62ff62eaf83789a54a9ef64dc2da3686f8f215d7fed388cc0c6abab", func := "tollhouse/tollhouselaw21.ScoreLearns", spec := "scoreLearns", inPlace := ["math.Float64bits", "math.Float64frombits"], apart := false, narrowed := true }
def ScoreLearnsUptoSaid : Prop := scoreLearnsUptoRow.holds Try.pinned (OpenSpec.upto scoreLearnsSpec)

/-- 'tollhouselaw21.ScoreChances', WHERE WHAT IT READS IS OF BULK AT MOST 1048576: true; the input reads as it did. -/
def scoreChancesUptoRow : OpenClaim := { program := "ytbjecpcmbjjfaaa", sum := "8a53d42ed62ff62eaf83789a54a9ef64dc2da3686f8f215d7fed388cc0c6abab", func := "tollhouse/tollhouselaw21.ScoreChances", spec := "scoreChances", inPlace := ["math.Float64bits", "math.Float64frombits"], apart := false, narrowed := true }
def ScoreChancesUptoSaid : Prop := scoreChancesUptoRow.holds Try.pinned (OpenSpec.upto scoreChancesSpec)

/-- 'tollhouselaw21.ScoreRanges', WHERE WHAT IT READS IS OF BULK AT MOST 1048576: true; the input reads as it did. -/
def scoreRangesUptoRow : OpenClaim := { program := "ytbjecpcmbjjfaaa", sum := "8a53d42ed62ff62eaf83789a54a9ef64dc2da3686f8f215d7fed388cc0c6abab", func := "tollhouse/tollhouselaw21.ScoreRanges", spec := "scoreRanges", inPlace := ["math.Float64bits", "math.Float64frombits"], apart := false, narrowed := true }
def ScoreRangesUptoSaid : Prop := scoreRangesUptoRow.holds Try.pinned (OpenSpec.upto scoreRangesSpec)

end Rows
end Go.Proofs.Ytbjecpcmbjjfaaa
