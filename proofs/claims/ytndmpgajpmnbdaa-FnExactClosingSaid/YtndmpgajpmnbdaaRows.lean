/-
  No cell of these rows narrows 'for every input' (looked for: loops, veiled, ifaces, maps, wideKeys, modest, calm, conditions, laid).
  DERIVED. THE GIVEN ROWS OF THIS SEAT. 7 by the template 'for every input the law returns true; each argument reads behind the call as it read before'; 0 by the template 'total and deterministic' (their statements: YtndmpgajpmnbdaaTotals.lean).
  GIVEN WITH THE SEED: the statements are not yours to turn. If you find one false, say at which input.
  Laid BY PROGRAM, IN A SANDBOX (cutbox-rows.mjs): the forced cells as the released guide's own fill.sh prints them over the translation 00eb8f817e433171… (all of the seat's roots in one cut). By AI agents, Wed Nov 11 2026. No macro, syntax, notation, axiom, sorry.
-/
import Derived.Test.YtndmpgajpmnbdaaChecked
import GoSem.Claim
import GoSem.ClaimJoined
import GoSem.ClaimMapViews
import Derived.JoinedTies
import Derived.KernelRfl
namespace Go.Proofs.Ytndmpgajpmnbdaa
/- THE CELL 'sum', in the pinned program and in every row, IS THE sha256 OF THE DUMP (.gsa) THAT YtndmpgajpmnbdaaProg.lean LOADS. Nothing in Lean hashes anything: it is a label: what it is worth is what the hold of that sum in a sandbox is worth. -/
noncomputable def Try.pinned : Pinned := { name := "ytndmpgajpmnbdaa", sum := "00eb8f817e4331714c6ef59812ecb09e5a5692ef8f99fccc7a2970526236ba5d", checked := Try.checked }
namespace Rows
def none {H : Type} : Left H := { results := [], args := [] }

/-- 'laws.FnExactRayRound': WHATEVER THE INPUT: true; the input reads as it did. -/
def fnExactRayRoundSpec : ChangeSpec := { name := "fnExactRayRound", fn := fun _ => fun
  | [d1, d2, d3] => { results := [.lit (.bool true)], args := [d1, d2, d3] }
  | _ => none }
def fnExactRayRoundRow : OpenClaim := { program := "ytndmpgajpmnbdaa", sum := "00eb8f817e4331714c6ef59812ecb09e5a5692ef8f99fccc7a2970526236ba5d", func := "loop.example/parquetry/laws.FnExactRayRound", spec := "fnExactRayRound", apart := false }
def FnExactRayRoundSaid : Prop := fnExactRayRoundRow.holds Try.pinned (OpenSpec.ofChange fnExactRayRoundSpec)

/-- ITS FALSE NEIGHBOUR: 'it returns false'. Refute it at one input. -/
def fnExactRayRoundWrong : ChangeSpec := { name := "fnExactRayRound", fn := fun _ => fun
  | [d1, d2, d3] => { results := [.lit (.bool false)], args := [d1, d2, d3] }
  | _ => none }
def FnExactRayRoundWrongFalsely : Prop := fnExactRayRoundRow.holds Try.pinned (OpenSpec.ofChange fnExactRayRoundWrong)

/-- 'laws.FnExactBroadOk': WHATEVER THE INPUT: true; the input reads as it did. -/
def fnExactBroadOkSpec : ChangeSpec := { name := "fnExactBroadOk", fn := fun _ => fun
  | [d] => { results := [.lit (.bool true)], args := [d] }
  | _ => none }
def fnExactBroadOkRow : OpenClaim := { program := "ytndmpgajpmnbdaa", sum := "00eb8f817e4331714c6ef59812ecb09e5a5692ef8f99fccc7a2970526236ba5d", func := "loop.example/parquetry/laws.FnExactBroadOk", spec := "fnExactBroadOk", apart := false }
def FnExactBroadOkSaid : Prop := fnExactBroadOkRow.holds Try.pinned (OpenSpec.ofChange fnExactBroadOkSpec)

/-- ITS FALSE NEIGHBOUR: 'it returns false'. Refute it at one input. -/
def fnExactBroadOkWrong : ChangeSpec := { name := "fnExactBroadOk", fn := fun _ => fun
  | [d] => { results := [.lit (.bool false)], args := [d] }
  | _ => none }
def FnExactBroadOkWrongFalsely : Prop := fnExactBroadOkRow.holds Try.pinned (OpenSpec.ofChange fnExactBroadOkWrong)

/-- 'laws.FnExactRayBox': WHATEVER THE INPUT: true; the input reads as it did. -/
def fnExactRayBoxSpec : ChangeSpec := { name := "fnExactRayBox", fn := fun _ => fun
  | [d1, d2] => { results := [.lit (.bool true)], args := [d1, d2] }
  | _ => none }
def fnExactRayBoxRow : OpenClaim := { program := "ytndmpgajpmnbdaa", sum := "00eb8f817e4331714c6ef59812ecb09e5a5692ef8f99fccc7a2970526236ba5d", func := "loop.example/parquetry/laws.FnExactRayBox", spec := "fnExactRayBox", apart := false }
def FnExactRayBoxSaid : Prop := fnExactRayBoxRow.holds Try.pinned (OpenSpec.ofChange fnExactRayBoxSpec)

/-- ITS FALSE NEIGHBOUR: 'it returns false'. Refute it at one input. -/
def fnExactRayBoxWrong : ChangeSpec := { name := "fnExactRayBox", fn := fun _ => fun
  | [d1, d2] => { results := [.lit (.bool false)], args := [d1, d2] }
  | _ => none }
def FnExactRayBoxWrongFalsely : Prop := fnExactRayBoxRow.holds Try.pinned (OpenSpec.ofChange fnExactRayBoxWrong)

/-- 'laws.FnRayRound': WHATEVER THE INPUT: true; the input reads as it did. -/
def fnRayRoundSpec : ChangeSpec := { name := "fnRayRound", fn := fun _ => fun
  | [d] => { results := [.lit (.bool true)], args := [d] }
  | _ => none }
def fnRayRoundRow : OpenClaim := { program := "ytndmpgajpmnbdaa", sum := "00eb8f817e4331714c6ef59812ecb09e5a5692ef8f99fccc7a2970526236ba5d", func := "loop.example/parquetry/laws.FnRayRound", spec := "fnRayRound", apart := false }
def FnRayRoundSaid : Prop := fnRayRoundRow.holds Try.pinned (OpenSpec.ofChange fnRayRoundSpec)

/-- ITS FALSE NEIGHBOUR: 'it returns false'. Refute it at one input. -/
def fnRayRoundWrong : ChangeSpec := { name := "fnRayRound", fn := fun _ => fun
  | [d] => { results := [.lit (.bool false)], args := [d] }
  | _ => none }
def FnRayRoundWrongFalsely : Prop := fnRayRoundRow.holds Try.pinned (OpenSpec.ofChange fnRayRoundWrong)

/-- 'laws.FnExactClosing': WHATEVER THE INPUT: true; the input reads as it did. -/
def fnExactClosingSpec : ChangeSpec := { name := "fnExactClosing", fn := fun _ => fun
  | [d1, d2, d3] => { results := [.lit (.bool true)], args := [d1, d2, d3] }
  | _ => none }
def fnExactClosingRow : OpenClaim := { program := "ytndmpgajpmnbdaa", sum := "00eb8f817e4331714c6ef59812ecb09e5a5692ef8f99fccc7a2970526236ba5d", func := "loop.example/parquetry/laws.FnExactClosing", spec := "fnExactClosing", apart := false }
def FnExactClosingSaid : Prop := fnExactClosingRow.holds Try.pinned (OpenSpec.ofChange fnExactClosingSpec)

/-- ITS FALSE NEIGHBOUR: 'it returns false'. Refute it at one input. -/
def fnExactClosingWrong : ChangeSpec := { name := "fnExactClosing", fn := fun _ => fun
  | [d1, d2, d3] => { results := [.lit (.bool false)], args := [d1, d2, d3] }
  | _ => none }
def FnExactClosingWrongFalsely : Prop := fnExactClosingRow.holds Try.pinned (OpenSpec.ofChange fnExactClosingWrong)

/-- 'laws.FnExactStill': WHATEVER THE INPUT: true; the input reads as it did. -/
def fnExactStillSpec : ChangeSpec := { name := "fnExactStill", fn := fun _ => fun
  | [d] => { results := [.lit (.bool true)], args := [d] }
  | _ => none }
def fnExactStillRow : OpenClaim := { program := "ytndmpgajpmnbdaa", sum := "00eb8f817e4331714c6ef59812ecb09e5a5692ef8f99fccc7a2970526236ba5d", func := "loop.example/parquetry/laws.FnExactStill", spec := "fnExactStill", unfollowed := true, recurses := true, apart := false }
def FnExactStillSaid : Prop := fnExactStillRow.holds Try.pinned (OpenSpec.ofChange fnExactStillSpec)

/-- ITS FALSE NEIGHBOUR: 'it returns false'. Refute it at one input. -/
def fnExactStillWrong : ChangeSpec := { name := "fnExactStill", fn := fun _ => fun
  | [d] => { results := [.lit (.bool false)], args := [d] }
  | _ => none }
def FnExactStillWrongFalsely : Prop := fnExactStillRow.holds Try.pinned (OpenSpec.ofChange fnExactStillWrong)

/-- 'laws.FnExactRayShape': WHATEVER THE INPUT: true; the input reads as it did. -/
def fnExactRayShapeSpec : ChangeSpec := { name := "fnExactRayShape", fn := fun _ => fun
  | [d1, d2, d3] => { results := [.lit (.bool true)], args := [d1, d2, d3] }
  | _ => none }
def fnExactRayShapeRow : OpenClaim := { program := "ytndmpgajpmnbdaa", sum := "00eb8f817e4331714c6ef59812ecb09e5a5692ef8f99fccc7a2970526236ba5d", func := "loop.example/parquetry/laws.FnExactRayShape", spec := "fnExactRayShape", apart := false }
def FnExactRayShapeSaid : Prop := fnExactRayShapeRow.holds Try.pinned (OpenSpec.ofChange fnExactRayShapeSpec)

/-- ITS FALSE NEIGHBOUR: 'it returns false'. Refute it at one input. -/
def fnExactRayShapeWrong : ChangeSpec := { name := "fnExactRayShape", fn := fun _ => fun
  | [d1, d2, d3] => { results := [.lit (.bool false)], args := [d1, d2, d3] }
  | _ => none }
def FnExactRayShapeWrongFalsely : Prop := fnExactRayShapeRow.holds Try.pinned (OpenSpec.ofChange fnExactRayShapeWrong)

/- THE SECOND FORM. 'bulk': how many values and letters a reading holds, each counted each time it is reached (what is shared counts as often as it is met; a slice's spare places count too). A statement '..UptoSaid' is the law's where the arguments, and the package variables that the reading takes, are together of bulk at most 1048576: NARROWER than '..Said'. Prove '..Said' where nothing that the law and all that it calls make is longer than what came in: it says more and counts as full. Else prove '..UptoSaid'. A law counts once. -/
mutual
def uptoBulk {H : Type} : DataW H → Nat
  | .lit (.string bytes) => bytes.length + 1
  | .lit _ => 1
  | .nil => 1
  | .ptr d => uptoBulk d + 1
  | .slice elems spare => uptoBulkAll elems + uptoBulkAll spare + 1
  | .agg parts => uptoBulkAll parts + 1
  | .iface _ d => uptoBulk d + 1
  | .map entries => uptoBulkEntries entries + 1
  | .held _ => 1
def uptoBulkAll {H : Type} : List (DataW H) → Nat
  | [] => 0
  | d :: r => uptoBulk d + uptoBulkAll r
def uptoBulkEntries {H : Type} : List (Lit × DataW H) → Nat
  | [] => 0
  | x :: r => uptoBulkEntry x + uptoBulkEntries r
def uptoBulkEntry {H : Type} : Lit × DataW H → Nat
  | (.string bytes, d) => bytes.length + uptoBulk d + 1
  | (_, d) => uptoBulk d + 1
 end
def uptoSmall : (H : Type) → List (DataW H) → Bool := fun _ ds => decide (uptoBulkAll ds ≤ 1048576)
def OpenSpec.upto (s : _root_.Go.ChangeSpec) : _root_.Go.OpenSpec := { _root_.Go.OpenSpec.ofChange s with cond := some uptoSmall }

/-- 'laws.FnExactRayRound', WHERE WHAT IT READS IS OF BULK AT MOST 1048576: true; the input reads as it did. -/
def fnExactRayRoundUptoRow : OpenClaim := { program := "ytndmpgajpmnbdaa", sum := "00eb8f817e4331714c6ef59812ecb09e5a5692ef8f99fccc7a2970526236ba5d", func := "loop.example/parquetry/laws.FnExactRayRound", spec := "fnExactRayRound", apart := false, narrowed := true }
def FnExactRayRoundUptoSaid : Prop := fnExactRayRoundUptoRow.holds Try.pinned (OpenSpec.upto fnExactRayRoundSpec)

/-- 'laws.FnExactBroadOk', WHERE WHAT IT READS IS OF BULK AT MOST 1048576: true; the input reads as it did. -/
def fnExactBroadOkUptoRow : OpenClaim := { program := "ytndmpgajpmnbdaa", sum := "00eb8f817e4331714c6ef59812ecb09e5a5692ef8f99fccc7a2970526236ba5d", func := "loop.example/parquetry/laws.FnExactBroadOk", spec := "fnExactBroadOk", apart := false, narrowed := true }
def FnExactBroadOkUptoSaid : Prop := fnExactBroadOkUptoRow.holds Try.pinned (OpenSpec.upto fnExactBroadOkSpec)

/-- 'laws.FnExactRayBox', WHERE WHAT IT READS IS OF BULK AT MOST 1048576: true; the input reads as it did. -/
def fnExactRayBoxUptoRow : OpenClaim := { program := "ytndmpgajpmnbdaa", sum := "00eb8f817e4331714c6ef59812ecb09e5a5692ef8f99fccc7a2970526236ba5d", func := "loop.example/parquetry/laws.FnExactRayBox", spec := "fnExactRayBox", apart := false, narrowed := true }
def FnExactRayBoxUptoSaid : Prop := fnExactRayBoxUptoRow.holds Try.pinned (OpenSpec.upto fnExactRayBoxSpec)

/-- 'laws.FnRayRound', WHERE WHAT IT READS IS OF BULK AT MOST 1048576: true; the input reads as it did. -/
def fnRayRoundUptoRow : OpenClaim := { program := "ytndmpgajpmnbdaa", sum := "00eb8f817e4331714c6ef59812ecb09e5a5692ef8f99fccc7a2970526236ba5d", func := "loop.example/parquetry/laws.FnRayRound", spec := "fnRayRound", apart := false, narrowed := true }
def FnRayRoundUptoSaid : Prop := fnRayRoundUptoRow.holds Try.pinned (OpenSpec.upto fnRayRoundSpec)

/-- 'laws.FnExactClosing', WHERE WHAT IT READS IS OF BULK AT MOST 1048576: true; the input reads as it did. -/
def fnExactClosingUptoRow : OpenClaim := { program := "ytndmpgajpmnbdaa", sum := "00eb8f817e4331714c6ef59812ecb09e5a5692ef8f99fccc7a2970526236ba5d", func := "loop.example/parquetry/laws.FnExactClosing", spec := "fnExactClosing", apart := false, narrowed := true }
def FnExactClosingUptoSaid : Prop := fnExactClosingUptoRow.holds Try.pinned (OpenSpec.upto fnExactClosingSpec)

/-- 'laws.FnExactStill', WHERE WHAT IT READS IS OF BULK AT MOST 1048576: true; the input reads as it did. -/
def fnExactStillUptoRow : OpenClaim := { program := "ytndmpgajpmnbdaa", sum := "00eb8f817e4331714c6ef59812ecb09e5a5692ef8f99fccc7a2970526236ba5d", func := "loop.example/parquetry/laws.FnExactStill", spec := "fnExactStill", unfollowed := true, recurses := true, apart := false, narrowed := true }
def FnExactStillUptoSaid : Prop := fnExactStillUptoRow.holds Try.pinned (OpenSpec.upto fnExactStillSpec)

/-- 'laws.FnExactRayShape', WHERE WHAT IT READS IS OF BULK AT MOST 1048576: true; the input reads as it did. -/
def fnExactRayShapeUptoRow : OpenClaim := { program := "ytndmpgajpmnbdaa", sum := "00eb8f817e4331714c6ef59812ecb09e5a5692ef8f99fccc7a2970526236ba5d", func := "loop.example/parquetry/laws.FnExactRayShape", spec := "fnExactRayShape", apart := false, narrowed := true }
def FnExactRayShapeUptoSaid : Prop := fnExactRayShapeUptoRow.holds Try.pinned (OpenSpec.upto fnExactRayShapeSpec)

end Rows
end Go.Proofs.Ytndmpgajpmnbdaa
