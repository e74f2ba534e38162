/-
  No cell of these rows narrows 'for every input' (looked for: loops, veiled, ifaces, maps, wideKeys, modest, calm, conditions, laid).
  DERIVED. THE GIVEN ROWS OF THIS SEAT. 12 by the template 'for every input the law returns true; each argument reads behind the call as it read before'; 0 by the template 'total and deterministic' (their statements: YteeelenokjahnaaTotals.lean).
  GIVEN WITH THE SEED: the statements are not yours to turn. If you find one false, say at which input.
  Laid BY PROGRAM, IN A SANDBOX (cutbox-rows.mjs): the forced cells as the released guide's own fill.sh prints them over the translation 9c1a4ff1bff488d3… (all of the seat's roots in one cut). By AI agents, Wed Nov 11 2026. No macro, syntax, notation, axiom, sorry.
-/
import Derived.Test.YteeelenokjahnaaChecked
import GoSem.Claim
import GoSem.ClaimJoined
import GoSem.ClaimMapViews
import Derived.JoinedTies
import Derived.KernelRfl
namespace Go.Proofs.Yteeelenokjahnaa
/- THE CELL 'sum', in the pinned program and in every row, IS THE sha256 OF THE DUMP (.gsa) THAT YteeelenokjahnaaProg.lean LOADS. Nothing in Lean hashes anything: it is a label: what it is worth is what the hold of that sum in a sandbox is worth. -/
noncomputable def Try.pinned : Pinned := { name := "yteeelenokjahnaa", sum := "9c1a4ff1bff488d37e18f225698e8267d44a6c5979501c710f06b8f79d5e32db", checked := Try.checked }
namespace Rows
def none {H : Type} : Left H := { results := [], args := [] }

/-- 'laws.FnExactBroadOk': WHATEVER THE INPUT: true; the input reads as it did. -/
def fnExactBroadOkSpec : ChangeSpec := { name := "fnExactBroadOk", fn := fun _ => fun
  | [d] => { results := [.lit (.bool true)], args := [d] }
  | _ => none }
def fnExactBroadOkRow : OpenClaim := { program := "yteeelenokjahnaa", sum := "9c1a4ff1bff488d37e18f225698e8267d44a6c5979501c710f06b8f79d5e32db", func := "loop.example/parquetry/laws.FnExactBroadOk", spec := "fnExactBroadOk", apart := false }
def FnExactBroadOkSaid : Prop := fnExactBroadOkRow.holds Try.pinned (OpenSpec.ofChange fnExactBroadOkSpec)

/-- ITS FALSE NEIGHBOUR: 'it returns false'. Refute it at one input. -/
def fnExactBroadOkWrong : ChangeSpec := { name := "fnExactBroadOk", fn := fun _ => fun
  | [d] => { results := [.lit (.bool false)], args := [d] }
  | _ => none }
def FnExactBroadOkWrongFalsely : Prop := fnExactBroadOkRow.holds Try.pinned (OpenSpec.ofChange fnExactBroadOkWrong)

/-- 'laws.FnRayRound': WHATEVER THE INPUT: true; the input reads as it did. -/
def fnRayRoundSpec : ChangeSpec := { name := "fnRayRound", fn := fun _ => fun
  | [d] => { results := [.lit (.bool true)], args := [d] }
  | _ => none }
def fnRayRoundRow : OpenClaim := { program := "yteeelenokjahnaa", sum := "9c1a4ff1bff488d37e18f225698e8267d44a6c5979501c710f06b8f79d5e32db", func := "loop.example/parquetry/laws.FnRayRound", spec := "fnRayRound", apart := false }
def FnRayRoundSaid : Prop := fnRayRoundRow.holds Try.pinned (OpenSpec.ofChange fnRayRoundSpec)

/-- ITS FALSE NEIGHBOUR: 'it returns false'. Refute it at one input. -/
def fnRayRoundWrong : ChangeSpec := { name := "fnRayRound", fn := fun _ => fun
  | [d] => { results := [.lit (.bool false)], args := [d] }
  | _ => none }
def FnRayRoundWrongFalsely : Prop := fnRayRoundRow.holds Try.pinned (OpenSpec.ofChange fnRayRoundWrong)

/-- 'laws.FnExactStill': WHATEVER THE INPUT: true; the input reads as it did. -/
def fnExactStillSpec : ChangeSpec := { name := "fnExactStill", fn := fun _ => fun
  | [d] => { results := [.lit (.bool true)], args := [d] }
  | _ => none }
def fnExactStillRow : OpenClaim := { program := "yteeelenokjahnaa", sum := "9c1a4ff1bff488d37e18f225698e8267d44a6c5979501c710f06b8f79d5e32db", func := "loop.example/parquetry/laws.FnExactStill", spec := "fnExactStill", unfollowed := true, recurses := true, apart := false }
def FnExactStillSaid : Prop := fnExactStillRow.holds Try.pinned (OpenSpec.ofChange fnExactStillSpec)

/-- ITS FALSE NEIGHBOUR: 'it returns false'. Refute it at one input. -/
def fnExactStillWrong : ChangeSpec := { name := "fnExactStill", fn := fun _ => fun
  | [d] => { results := [.lit (.bool false)], args := [d] }
  | _ => none }
def FnExactStillWrongFalsely : Prop := fnExactStillRow.holds Try.pinned (OpenSpec.ofChange fnExactStillWrong)

/-- 'laws.FnRayBox': WHATEVER THE INPUT: true; the input reads as it did. -/
def fnRayBoxSpec : ChangeSpec := { name := "fnRayBox", fn := fun _ => fun
  | [d] => { results := [.lit (.bool true)], args := [d] }
  | _ => none }
def fnRayBoxRow : OpenClaim := { program := "yteeelenokjahnaa", sum := "9c1a4ff1bff488d37e18f225698e8267d44a6c5979501c710f06b8f79d5e32db", func := "loop.example/parquetry/laws.FnRayBox", spec := "fnRayBox", apart := false }
def FnRayBoxSaid : Prop := fnRayBoxRow.holds Try.pinned (OpenSpec.ofChange fnRayBoxSpec)

/-- ITS FALSE NEIGHBOUR: 'it returns false'. Refute it at one input. -/
def fnRayBoxWrong : ChangeSpec := { name := "fnRayBox", fn := fun _ => fun
  | [d] => { results := [.lit (.bool false)], args := [d] }
  | _ => none }
def FnRayBoxWrongFalsely : Prop := fnRayBoxRow.holds Try.pinned (OpenSpec.ofChange fnRayBoxWrong)

/-- 'laws.FnExactBroadAsk': WHATEVER THE INPUT: true; the input reads as it did. -/
def fnExactBroadAskSpec : ChangeSpec := { name := "fnExactBroadAsk", fn := fun _ => fun
  | [d1, d2] => { results := [.lit (.bool true)], args := [d1, d2] }
  | _ => none }
def fnExactBroadAskRow : OpenClaim := { program := "yteeelenokjahnaa", sum := "9c1a4ff1bff488d37e18f225698e8267d44a6c5979501c710f06b8f79d5e32db", func := "loop.example/parquetry/laws.FnExactBroadAsk", spec := "fnExactBroadAsk", apart := false }
def FnExactBroadAskSaid : Prop := fnExactBroadAskRow.holds Try.pinned (OpenSpec.ofChange fnExactBroadAskSpec)

/-- ITS FALSE NEIGHBOUR: 'it returns false'. Refute it at one input. -/
def fnExactBroadAskWrong : ChangeSpec := { name := "fnExactBroadAsk", fn := fun _ => fun
  | [d1, d2] => { results := [.lit (.bool false)], args := [d1, d2] }
  | _ => none }
def FnExactBroadAskWrongFalsely : Prop := fnExactBroadAskRow.holds Try.pinned (OpenSpec.ofChange fnExactBroadAskWrong)

/-- 'laws.FnBroadAsk': WHATEVER THE INPUT: true; the input reads as it did. -/
def fnBroadAskSpec : ChangeSpec := { name := "fnBroadAsk", fn := fun _ => fun
  | [d1, d2] => { results := [.lit (.bool true)], args := [d1, d2] }
  | _ => none }
def fnBroadAskRow : OpenClaim := { program := "yteeelenokjahnaa", sum := "9c1a4ff1bff488d37e18f225698e8267d44a6c5979501c710f06b8f79d5e32db", func := "loop.example/parquetry/laws.FnBroadAsk", spec := "fnBroadAsk", apart := false }
def FnBroadAskSaid : Prop := fnBroadAskRow.holds Try.pinned (OpenSpec.ofChange fnBroadAskSpec)

/-- ITS FALSE NEIGHBOUR: 'it returns false'. Refute it at one input. -/
def fnBroadAskWrong : ChangeSpec := { name := "fnBroadAsk", fn := fun _ => fun
  | [d1, d2] => { results := [.lit (.bool false)], args := [d1, d2] }
  | _ => none }
def FnBroadAskWrongFalsely : Prop := fnBroadAskRow.holds Try.pinned (OpenSpec.ofChange fnBroadAskWrong)

/-- 'laws.FnBroadPairs': WHATEVER THE INPUT: true; the input reads as it did. -/
def fnBroadPairsSpec : ChangeSpec := { name := "fnBroadPairs", fn := fun _ => fun
  | [d] => { results := [.lit (.bool true)], args := [d] }
  | _ => none }
def fnBroadPairsRow : OpenClaim := { program := "yteeelenokjahnaa", sum := "9c1a4ff1bff488d37e18f225698e8267d44a6c5979501c710f06b8f79d5e32db", func := "loop.example/parquetry/laws.FnBroadPairs", spec := "fnBroadPairs", apart := false }
def FnBroadPairsSaid : Prop := fnBroadPairsRow.holds Try.pinned (OpenSpec.ofChange fnBroadPairsSpec)

/-- ITS FALSE NEIGHBOUR: 'it returns false'. Refute it at one input. -/
def fnBroadPairsWrong : ChangeSpec := { name := "fnBroadPairs", fn := fun _ => fun
  | [d] => { results := [.lit (.bool false)], args := [d] }
  | _ => none }
def FnBroadPairsWrongFalsely : Prop := fnBroadPairsRow.holds Try.pinned (OpenSpec.ofChange fnBroadPairsWrong)

/-- 'laws.FnExactBroadPairs': WHATEVER THE INPUT: true; the input reads as it did. -/
def fnExactBroadPairsSpec : ChangeSpec := { name := "fnExactBroadPairs", fn := fun _ => fun
  | [d] => { results := [.lit (.bool true)], args := [d] }
  | _ => none }
def fnExactBroadPairsRow : OpenClaim := { program := "yteeelenokjahnaa", sum := "9c1a4ff1bff488d37e18f225698e8267d44a6c5979501c710f06b8f79d5e32db", func := "loop.example/parquetry/laws.FnExactBroadPairs", spec := "fnExactBroadPairs", apart := false }
def FnExactBroadPairsSaid : Prop := fnExactBroadPairsRow.holds Try.pinned (OpenSpec.ofChange fnExactBroadPairsSpec)

/-- ITS FALSE NEIGHBOUR: 'it returns false'. Refute it at one input. -/
def fnExactBroadPairsWrong : ChangeSpec := { name := "fnExactBroadPairs", fn := fun _ => fun
  | [d] => { results := [.lit (.bool false)], args := [d] }
  | _ => none }
def FnExactBroadPairsWrongFalsely : Prop := fnExactBroadPairsRow.holds Try.pinned (OpenSpec.ofChange fnExactBroadPairsWrong)

/-- 'laws.FnExactPushOf': WHATEVER THE INPUT: true; the input reads as it did. -/
def fnExactPushOfSpec : ChangeSpec := { name := "fnExactPushOf", fn := fun _ => fun
  | [d1, d2, d3, d4] => { results := [.lit (.bool true)], args := [d1, d2, d3, d4] }
  | _ => none }
def fnExactPushOfRow : OpenClaim := { program := "yteeelenokjahnaa", sum := "9c1a4ff1bff488d37e18f225698e8267d44a6c5979501c710f06b8f79d5e32db", func := "loop.example/parquetry/laws.FnExactPushOf", spec := "fnExactPushOf", apart := false }
def FnExactPushOfSaid : Prop := fnExactPushOfRow.holds Try.pinned (OpenSpec.ofChange fnExactPushOfSpec)

/-- ITS FALSE NEIGHBOUR: 'it returns false'. Refute it at one input. -/
def fnExactPushOfWrong : ChangeSpec := { name := "fnExactPushOf", fn := fun _ => fun
  | [d1, d2, d3, d4] => { results := [.lit (.bool false)], args := [d1, d2, d3, d4] }
  | _ => none }
def FnExactPushOfWrongFalsely : Prop := fnExactPushOfRow.holds Try.pinned (OpenSpec.ofChange fnExactPushOfWrong)

/-- 'laws.FnExactWorldNew': WHATEVER THE INPUT: true; the input reads as it did. -/
def fnExactWorldNewSpec : ChangeSpec := { name := "fnExactWorldNew", fn := fun _ => fun
  | [d] => { results := [.lit (.bool true)], args := [d] }
  | _ => none }
def fnExactWorldNewRow : OpenClaim := { program := "yteeelenokjahnaa", sum := "9c1a4ff1bff488d37e18f225698e8267d44a6c5979501c710f06b8f79d5e32db", func := "loop.example/parquetry/laws.FnExactWorldNew", spec := "fnExactWorldNew", apart := false }
def FnExactWorldNewSaid : Prop := fnExactWorldNewRow.holds Try.pinned (OpenSpec.ofChange fnExactWorldNewSpec)

/-- ITS FALSE NEIGHBOUR: 'it returns false'. Refute it at one input. -/
def fnExactWorldNewWrong : ChangeSpec := { name := "fnExactWorldNew", fn := fun _ => fun
  | [d] => { results := [.lit (.bool false)], args := [d] }
  | _ => none }
def FnExactWorldNewWrongFalsely : Prop := fnExactWorldNewRow.holds Try.pinned (OpenSpec.ofChange fnExactWorldNewWrong)

/-- 'laws.FnBroadGone': WHATEVER THE INPUT: true; the input reads as it did. -/
def fnBroadGoneSpec : ChangeSpec := { name := "fnBroadGone", fn := fun _ => fun
  | [d] => { results := [.lit (.bool true)], args := [d] }
  | _ => none }
def fnBroadGoneRow : OpenClaim := { program := "yteeelenokjahnaa", sum := "9c1a4ff1bff488d37e18f225698e8267d44a6c5979501c710f06b8f79d5e32db", func := "loop.example/parquetry/laws.FnBroadGone", spec := "fnBroadGone", unfollowed := true, recurses := true, apart := false }
def FnBroadGoneSaid : Prop := fnBroadGoneRow.holds Try.pinned (OpenSpec.ofChange fnBroadGoneSpec)

/-- ITS FALSE NEIGHBOUR: 'it returns false'. Refute it at one input. -/
def fnBroadGoneWrong : ChangeSpec := { name := "fnBroadGone", fn := fun _ => fun
  | [d] => { results := [.lit (.bool false)], args := [d] }
  | _ => none }
def FnBroadGoneWrongFalsely : Prop := fnBroadGoneRow.holds Try.pinned (OpenSpec.ofChange fnBroadGoneWrong)

/-- 'laws.FnExactBroadGone': WHATEVER THE INPUT: true; the input reads as it did. -/
def fnExactBroadGoneSpec : ChangeSpec := { name := "fnExactBroadGone", fn := fun _ => fun
  | [d1, d2] => { results := [.lit (.bool true)], args := [d1, d2] }
  | _ => none }
def fnExactBroadGoneRow : OpenClaim := { program := "yteeelenokjahnaa", sum := "9c1a4ff1bff488d37e18f225698e8267d44a6c5979501c710f06b8f79d5e32db", func := "loop.example/parquetry/laws.FnExactBroadGone", spec := "fnExactBroadGone", unfollowed := true, recurses := true, apart := false }
def FnExactBroadGoneSaid : Prop := fnExactBroadGoneRow.holds Try.pinned (OpenSpec.ofChange fnExactBroadGoneSpec)

/-- ITS FALSE NEIGHBOUR: 'it returns false'. Refute it at one input. -/
def fnExactBroadGoneWrong : ChangeSpec := { name := "fnExactBroadGone", fn := fun _ => fun
  | [d1, d2] => { results := [.lit (.bool false)], args := [d1, d2] }
  | _ => none }
def FnExactBroadGoneWrongFalsely : Prop := fnExactBroadGoneRow.holds Try.pinned (OpenSpec.ofChange fnExactBroadGoneWrong)

/- THE SECOND FORM. 'bulk': how many values and letters a reading holds, each counted each time it is reached (what is shared counts as often as it is met; a slice's spare places count too). A statement '..UptoSaid' is the law's where the arguments, and the package variables that the reading takes, are together of bulk at most 1048576: NARROWER than '..Said'. Prove '..Said' where nothing that the law and all that it calls make is longer than what came in: it says more and counts as full. Else prove '..UptoSaid'. A law counts once. -/
mutual
def uptoBulk {H : Type} : DataW H → Nat
  | .lit (.string bytes) => bytes.length + 1
  | .lit _ => 1
  | .nil => 1
  | .ptr d => uptoBulk d + 1
  | .slice elems spare => uptoBulkAll elems + uptoBulkAll spare + 1
  | .agg parts => uptoBulkAll parts + 1
  | .iface _ d => uptoBulk d + 1
  | .map entries => uptoBulkEntries entries + 1
  | .held _ => 1
def uptoBulkAll {H : Type} : List (DataW H) → Nat
  | [] => 0
  | d :: r => uptoBulk d + uptoBulkAll r
def uptoBulkEntries {H : Type} : List (Lit × DataW H) → Nat
  | [] => 0
  | x :: r => uptoBulkEntry x + uptoBulkEntries r
def uptoBulkEntry {H : Type} : Lit × DataW H → Nat
  | (.string bytes, d) => bytes.length + uptoBulk d + 1
  | (_, d) => uptoBulk d + 1
 end
def uptoSmall : (H : Type) → List (DataW H) → Bool := fun _ ds => decide (uptoBulkAll ds ≤ 1048576)
def OpenSpec.upto (s : _root_.Go.ChangeSpec) : _root_.Go.OpenSpec := { _root_.Go.OpenSpec.ofChange s with cond := some uptoSmall }

/-- 'laws.FnExactBroadOk', WHERE WHAT IT READS IS OF BULK AT MOST 1048576: true; the input reads as it did. -/
def fnExactBroadOkUptoRow : OpenClaim := { program := "yteeelenokjahnaa", sum := "9c1a4ff1bff488d37e18f225698e8267d44a6c5979501c710f06b8f79d5e32db", func := "loop.example/parquetry/laws.FnExactBroadOk", spec := "fnExactBroadOk", apart := false, narrowed := true }
def FnExactBroadOkUptoSaid : Prop := fnExactBroadOkUptoRow.holds Try.pinned (OpenSpec.upto fnExactBroadOkSpec)

/-- 'laws.FnRayRound', WHERE WHAT IT READS IS OF BULK AT MOST 1048576: true; the input reads as it did. -/
def fnRayRoundUptoRow : OpenClaim := { program := "yteeelenokjahnaa", sum := "9c1a4ff1bff488d37e18f225698e8267d44a6c5979501c710f06b8f79d5e32db", func := "loop.example/parquetry/laws.FnRayRound", spec := "fnRayRound", apart := false, narrowed := true }
def FnRayRoundUptoSaid : Prop := fnRayRoundUptoRow.holds Try.pinned (OpenSpec.upto fnRayRoundSpec)

/-- 'laws.FnExactStill', WHERE WHAT IT READS IS OF BULK AT MOST 1048576: true; the input reads as it did. -/
def fnExactStillUptoRow : OpenClaim := { program := "yteeelenokjahnaa", sum := "9c1a4ff1bff488d37e18f225698e8267d44a6c5979501c710f06b8f79d5e32db", func := "loop.example/parquetry/laws.FnExactStill", spec := "fnExactStill", unfollowed := true, recurses := true, apart := false, narrowed := true }
def FnExactStillUptoSaid : Prop := fnExactStillUptoRow.holds Try.pinned (OpenSpec.upto fnExactStillSpec)

/-- 'laws.FnRayBox', WHERE WHAT IT READS IS OF BULK AT MOST 1048576: true; the input reads as it did. -/
def fnRayBoxUptoRow : OpenClaim := { program := "yteeelenokjahnaa", sum := "9c1a4ff1bff488d37e18f225698e8267d44a6c5979501c710f06b8f79d5e32db", func := "loop.example/parquetry/laws.FnRayBox", spec := "fnRayBox", apart := false, narrowed := true }
def FnRayBoxUptoSaid : Prop := fnRayBoxUptoRow.holds Try.pinned (OpenSpec.upto fnRayBoxSpec)

/-- 'laws.FnExactBroadAsk', WHERE WHAT IT READS IS OF BULK AT MOST 1048576: true; the input reads as it did. -/
def fnExactBroadAskUptoRow : OpenClaim := { program := "yteeelenokjahnaa", sum := "9c1a4ff1bff488d37e18f225698e8267d44a6c5979501c710f06b8f79d5e32db", func := "loop.example/parquetry/laws.FnExactBroadAsk", spec := "fnExactBroadAsk", apart := false, narrowed := true }
def FnExactBroadAskUptoSaid : Prop := fnExactBroadAskUptoRow.holds Try.pinned (OpenSpec.upto fnExactBroadAskSpec)

/-- 'laws.FnBroadAsk', WHERE WHAT IT READS IS OF BULK AT MOST 1048576: true; the input reads as it did. -/
def fnBroadAskUptoRow : OpenClaim := { program := "yteeelenokjahnaa", sum := "9c1a4ff1bff488d37e18f225698e8267d44a6c5979501c710f06b8f79d5e32db", func := "loop.example/parquetry/laws.FnBroadAsk", spec := "fnBroadAsk", apart := false, narrowed := true }
def FnBroadAskUptoSaid : Prop := fnBroadAskUptoRow.holds Try.pinned (OpenSpec.upto fnBroadAskSpec)

/-- 'laws.FnBroadPairs', WHERE WHAT IT READS IS OF BULK AT MOST 1048576: true; the input reads as it did. -/
def fnBroadPairsUptoRow : OpenClaim := { program := "yteeelenokjahnaa", sum := "9c1a4ff1bff488d37e18f225698e8267d44a6c5979501c710f06b8f79d5e32db", func := "loop.example/parquetry/laws.FnBroadPairs", spec := "fnBroadPairs", apart := false, narrowed := true }
def FnBroadPairsUptoSaid : Prop := fnBroadPairsUptoRow.holds Try.pinned (OpenSpec.upto fnBroadPairsSpec)

/-- 'laws.FnExactBroadPairs', WHERE WHAT IT READS IS OF BULK AT MOST 1048576: true; the input reads as it did. -/
def fnExactBroadPairsUptoRow : OpenClaim := { program := "yteeelenokjahnaa", sum := "9c1a4ff1bff488d37e18f225698e8267d44a6c5979501c710f06b8f79d5e32db", func := "loop.example/parquetry/laws.FnExactBroadPairs", spec := "fnExactBroadPairs", apart := false, narrowed := true }
def FnExactBroadPairsUptoSaid : Prop := fnExactBroadPairsUptoRow.holds Try.pinned (OpenSpec.upto fnExactBroadPairsSpec)

/-- 'laws.FnExactPushOf', WHERE WHAT IT READS IS OF BULK AT MOST 1048576: true; the input reads as it did. -/
def fnExactPushOfUptoRow : OpenClaim := { program := "yteeelenokjahnaa", sum := "9c1a4ff1bff488d37e18f225698e8267d44a6c5979501c710f06b8f79d5e32db", func := "loop.example/parquetry/laws.FnExactPushOf", spec := "fnExactPushOf", apart := false, narrowed := true }
def FnExactPushOfUptoSaid : Prop := fnExactPushOfUptoRow.holds Try.pinned (OpenSpec.upto fnExactPushOfSpec)

/-- 'laws.FnExactWorldNew', WHERE WHAT IT READS IS OF BULK AT MOST 1048576: true; the input reads as it did. -/
def fnExactWorldNewUptoRow : OpenClaim := { program := "yteeelenokjahnaa", sum := "9c1a4ff1bff488d37e18f225698e8267d44a6c5979501c710f06b8f79d5e32db", func := "loop.example/parquetry/laws.FnExactWorldNew", spec := "fnExactWorldNew", apart := false, narrowed := true }
def FnExactWorldNewUptoSaid : Prop := fnExactWorldNewUptoRow.holds Try.pinned (OpenSpec.upto fnExactWorldNewSpec)

/-- 'laws.FnBroadGone', WHERE WHAT IT READS IS OF BULK AT MOST 1048576: true; the input reads as it did. -/
def fnBroadGoneUptoRow : OpenClaim := { program := "yteeelenokjahnaa", sum := "9c1a4ff1bff488d37e18f225698e8267d44a6c5979501c710f06b8f79d5e32db", func := "loop.example/parquetry/laws.FnBroadGone", spec := "fnBroadGone", unfollowed := true, recurses := true, apart := false, narrowed := true }
def FnBroadGoneUptoSaid : Prop := fnBroadGoneUptoRow.holds Try.pinned (OpenSpec.upto fnBroadGoneSpec)

/-- 'laws.FnExactBroadGone', WHERE WHAT IT READS IS OF BULK AT MOST 1048576: true; the input reads as it did. -/
def fnExactBroadGoneUptoRow : OpenClaim := { program := "yteeelenokjahnaa", sum := "9c1a4ff1bff488d37e18f225698e8267d44a6c5979501c710f06b8f79d5e32db", func := "loop.example/parquetry/laws.FnExactBroadGone", spec := "fnExactBroadGone", unfollowed := true, recurses := true, apart := false, narrowed := true }
def FnExactBroadGoneUptoSaid : Prop := fnExactBroadGoneUptoRow.holds Try.pinned (OpenSpec.upto fnExactBroadGoneSpec)

end Rows
end Go.Proofs.Yteeelenokjahnaa
