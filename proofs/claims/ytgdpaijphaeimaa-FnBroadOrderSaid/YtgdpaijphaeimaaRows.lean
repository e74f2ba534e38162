/-
  No cell of these rows narrows 'for every input' (looked for: loops, veiled, ifaces, maps, wideKeys, modest, calm, conditions, laid).
  DERIVED. THE GIVEN ROWS OF THIS SEAT. 12 by the template 'for every input the law returns true; each argument reads behind the call as it read before'; 0 by the template 'total and deterministic' (their statements: YtgdpaijphaeimaaTotals.lean).
  GIVEN WITH THE SEED: the statements are not yours to turn. If you find one false, say at which input.
  Laid BY PROGRAM, IN A SANDBOX (cutbox-rows.mjs): the forced cells as the released guide's own fill.sh prints them over the translation fd5212ef5435bc5e… (all of the seat's roots in one cut). By AI agents, Wed Nov 11 2026. No macro, syntax, notation, axiom, sorry.
-/
import Derived.Test.YtgdpaijphaeimaaChecked
import GoSem.Claim
import GoSem.ClaimJoined
import GoSem.ClaimMapViews
import Derived.JoinedTies
import Derived.KernelRfl
namespace Go.Proofs.Ytgdpaijphaeimaa
/- THE CELL 'sum', in the pinned program and in every row, IS THE sha256 OF THE DUMP (.gsa) THAT YtgdpaijphaeimaaProg.lean LOADS. Nothing in Lean hashes anything: it is a label: what it is worth is what the hold of that sum in a sandbox is worth. -/
noncomputable def Try.pinned : Pinned := { name := "ytgdpaijphaeimaa", sum := "fd5212ef5435bc5e1478e3ddfdd11bc280b48d25fd137ea77cdcda88e4e95304", checked := Try.checked }
namespace Rows
def none {H : Type} : Left H := { results := [], args := [] }

/-- 'laws.FnBroadNew': WHATEVER THE INPUT: true; the input reads as it did. -/
def fnBroadNewSpec : ChangeSpec := { name := "fnBroadNew", fn := fun _ => fun
  | [d] => { results := [.lit (.bool true)], args := [d] }
  | _ => none }
def fnBroadNewRow : OpenClaim := { program := "ytgdpaijphaeimaa", sum := "fd5212ef5435bc5e1478e3ddfdd11bc280b48d25fd137ea77cdcda88e4e95304", func := "loop.example/parquetry/laws.FnBroadNew", spec := "fnBroadNew", apart := false }
def FnBroadNewSaid : Prop := fnBroadNewRow.holds Try.pinned (OpenSpec.ofChange fnBroadNewSpec)

/-- ITS FALSE NEIGHBOUR: 'it returns false'. Refute it at one input. -/
def fnBroadNewWrong : ChangeSpec := { name := "fnBroadNew", fn := fun _ => fun
  | [d] => { results := [.lit (.bool false)], args := [d] }
  | _ => none }
def FnBroadNewWrongFalsely : Prop := fnBroadNewRow.holds Try.pinned (OpenSpec.ofChange fnBroadNewWrong)

/-- 'laws.FnExactBroadNew': WHATEVER THE INPUT: true; the input reads as it did. -/
def fnExactBroadNewSpec : ChangeSpec := { name := "fnExactBroadNew", fn := fun _ => fun
  | [d1, d2] => { results := [.lit (.bool true)], args := [d1, d2] }
  | _ => none }
def fnExactBroadNewRow : OpenClaim := { program := "ytgdpaijphaeimaa", sum := "fd5212ef5435bc5e1478e3ddfdd11bc280b48d25fd137ea77cdcda88e4e95304", func := "loop.example/parquetry/laws.FnExactBroadNew", spec := "fnExactBroadNew", apart := false }
def FnExactBroadNewSaid : Prop := fnExactBroadNewRow.holds Try.pinned (OpenSpec.ofChange fnExactBroadNewSpec)

/-- ITS FALSE NEIGHBOUR: 'it returns false'. Refute it at one input. -/
def fnExactBroadNewWrong : ChangeSpec := { name := "fnExactBroadNew", fn := fun _ => fun
  | [d1, d2] => { results := [.lit (.bool false)], args := [d1, d2] }
  | _ => none }
def FnExactBroadNewWrongFalsely : Prop := fnExactBroadNewRow.holds Try.pinned (OpenSpec.ofChange fnExactBroadNewWrong)

/-- 'laws.FnRayShape': WHATEVER THE INPUT: true; the input reads as it did. -/
def fnRayShapeSpec : ChangeSpec := { name := "fnRayShape", fn := fun _ => fun
  | [d] => { results := [.lit (.bool true)], args := [d] }
  | _ => none }
def fnRayShapeRow : OpenClaim := { program := "ytgdpaijphaeimaa", sum := "fd5212ef5435bc5e1478e3ddfdd11bc280b48d25fd137ea77cdcda88e4e95304", func := "loop.example/parquetry/laws.FnRayShape", spec := "fnRayShape", apart := false }
def FnRayShapeSaid : Prop := fnRayShapeRow.holds Try.pinned (OpenSpec.ofChange fnRayShapeSpec)

/-- ITS FALSE NEIGHBOUR: 'it returns false'. Refute it at one input. -/
def fnRayShapeWrong : ChangeSpec := { name := "fnRayShape", fn := fun _ => fun
  | [d] => { results := [.lit (.bool false)], args := [d] }
  | _ => none }
def FnRayShapeWrongFalsely : Prop := fnRayShapeRow.holds Try.pinned (OpenSpec.ofChange fnRayShapeWrong)

/-- 'laws.FnExactWorldOk': WHATEVER THE INPUT: true; the input reads as it did. -/
def fnExactWorldOkSpec : ChangeSpec := { name := "fnExactWorldOk", fn := fun _ => fun
  | [d] => { results := [.lit (.bool true)], args := [d] }
  | _ => none }
def fnExactWorldOkRow : OpenClaim := { program := "ytgdpaijphaeimaa", sum := "fd5212ef5435bc5e1478e3ddfdd11bc280b48d25fd137ea77cdcda88e4e95304", func := "loop.example/parquetry/laws.FnExactWorldOk", spec := "fnExactWorldOk", unfollowed := true, recurses := true, apart := false }
def FnExactWorldOkSaid : Prop := fnExactWorldOkRow.holds Try.pinned (OpenSpec.ofChange fnExactWorldOkSpec)

/-- ITS FALSE NEIGHBOUR: 'it returns false'. Refute it at one input. -/
def fnExactWorldOkWrong : ChangeSpec := { name := "fnExactWorldOk", fn := fun _ => fun
  | [d] => { results := [.lit (.bool false)], args := [d] }
  | _ => none }
def FnExactWorldOkWrongFalsely : Prop := fnExactWorldOkRow.holds Try.pinned (OpenSpec.ofChange fnExactWorldOkWrong)

/-- 'laws.FnBroadOrder': WHATEVER THE INPUT: true; the input reads as it did. -/
def fnBroadOrderSpec : ChangeSpec := { name := "fnBroadOrder", fn := fun _ => fun
  | [d] => { results := [.lit (.bool true)], args := [d] }
  | _ => none }
def fnBroadOrderRow : OpenClaim := { program := "ytgdpaijphaeimaa", sum := "fd5212ef5435bc5e1478e3ddfdd11bc280b48d25fd137ea77cdcda88e4e95304", func := "loop.example/parquetry/laws.FnBroadOrder", spec := "fnBroadOrder", inPlace := ["slices.overlaps[loop.example/parquetry/impl.Item]"], unfollowed := true, recurses := true, apart := false }
def FnBroadOrderSaid : Prop := fnBroadOrderRow.holds Try.pinned (OpenSpec.ofChange fnBroadOrderSpec)

/-- ITS FALSE NEIGHBOUR: 'it returns false'. Refute it at one input. -/
def fnBroadOrderWrong : ChangeSpec := { name := "fnBroadOrder", fn := fun _ => fun
  | [d] => { results := [.lit (.bool false)], args := [d] }
  | _ => none }
def FnBroadOrderWrongFalsely : Prop := fnBroadOrderRow.holds Try.pinned (OpenSpec.ofChange fnBroadOrderWrong)

/-- 'laws.FnExactBroadPut': WHATEVER THE INPUT: true; the input reads as it did. -/
def fnExactBroadPutSpec : ChangeSpec := { name := "fnExactBroadPut", fn := fun _ => fun
  | [d1, d2] => { results := [.lit (.bool true)], args := [d1, d2] }
  | _ => none }
def fnExactBroadPutRow : OpenClaim := { program := "ytgdpaijphaeimaa", sum := "fd5212ef5435bc5e1478e3ddfdd11bc280b48d25fd137ea77cdcda88e4e95304", func := "loop.example/parquetry/laws.FnExactBroadPut", spec := "fnExactBroadPut", inPlace := ["slices.overlaps[loop.example/parquetry/impl.Item]"], unfollowed := true, recurses := true, apart := false }
def FnExactBroadPutSaid : Prop := fnExactBroadPutRow.holds Try.pinned (OpenSpec.ofChange fnExactBroadPutSpec)

/-- ITS FALSE NEIGHBOUR: 'it returns false'. Refute it at one input. -/
def fnExactBroadPutWrong : ChangeSpec := { name := "fnExactBroadPut", fn := fun _ => fun
  | [d1, d2] => { results := [.lit (.bool false)], args := [d1, d2] }
  | _ => none }
def FnExactBroadPutWrongFalsely : Prop := fnExactBroadPutRow.holds Try.pinned (OpenSpec.ofChange fnExactBroadPutWrong)

/-- 'laws.FnClosing': WHATEVER THE INPUT: true; the input reads as it did. -/
def fnClosingSpec : ChangeSpec := { name := "fnClosing", fn := fun _ => fun
  | [d] => { results := [.lit (.bool true)], args := [d] }
  | _ => none }
def fnClosingRow : OpenClaim := { program := "ytgdpaijphaeimaa", sum := "fd5212ef5435bc5e1478e3ddfdd11bc280b48d25fd137ea77cdcda88e4e95304", func := "loop.example/parquetry/laws.FnClosing", spec := "fnClosing", apart := false }
def FnClosingSaid : Prop := fnClosingRow.holds Try.pinned (OpenSpec.ofChange fnClosingSpec)

/-- ITS FALSE NEIGHBOUR: 'it returns false'. Refute it at one input. -/
def fnClosingWrong : ChangeSpec := { name := "fnClosing", fn := fun _ => fun
  | [d] => { results := [.lit (.bool false)], args := [d] }
  | _ => none }
def FnClosingWrongFalsely : Prop := fnClosingRow.holds Try.pinned (OpenSpec.ofChange fnClosingWrong)

/-- 'laws.FnBroadPut': WHATEVER THE INPUT: true; the input reads as it did. -/
def fnBroadPutSpec : ChangeSpec := { name := "fnBroadPut", fn := fun _ => fun
  | [d] => { results := [.lit (.bool true)], args := [d] }
  | _ => none }
def fnBroadPutRow : OpenClaim := { program := "ytgdpaijphaeimaa", sum := "fd5212ef5435bc5e1478e3ddfdd11bc280b48d25fd137ea77cdcda88e4e95304", func := "loop.example/parquetry/laws.FnBroadPut", spec := "fnBroadPut", inPlace := ["slices.overlaps[loop.example/parquetry/impl.Item]"], unfollowed := true, recurses := true, apart := false }
def FnBroadPutSaid : Prop := fnBroadPutRow.holds Try.pinned (OpenSpec.ofChange fnBroadPutSpec)

/-- ITS FALSE NEIGHBOUR: 'it returns false'. Refute it at one input. -/
def fnBroadPutWrong : ChangeSpec := { name := "fnBroadPut", fn := fun _ => fun
  | [d] => { results := [.lit (.bool false)], args := [d] }
  | _ => none }
def FnBroadPutWrongFalsely : Prop := fnBroadPutRow.holds Try.pinned (OpenSpec.ofChange fnBroadPutWrong)

/-- 'laws.FnPushOf': WHATEVER THE INPUT: true; the input reads as it did. -/
def fnPushOfSpec : ChangeSpec := { name := "fnPushOf", fn := fun _ => fun
  | [d] => { results := [.lit (.bool true)], args := [d] }
  | _ => none }
def fnPushOfRow : OpenClaim := { program := "ytgdpaijphaeimaa", sum := "fd5212ef5435bc5e1478e3ddfdd11bc280b48d25fd137ea77cdcda88e4e95304", func := "loop.example/parquetry/laws.FnPushOf", spec := "fnPushOf", apart := false }
def FnPushOfSaid : Prop := fnPushOfRow.holds Try.pinned (OpenSpec.ofChange fnPushOfSpec)

/-- ITS FALSE NEIGHBOUR: 'it returns false'. Refute it at one input. -/
def fnPushOfWrong : ChangeSpec := { name := "fnPushOf", fn := fun _ => fun
  | [d] => { results := [.lit (.bool false)], args := [d] }
  | _ => none }
def FnPushOfWrongFalsely : Prop := fnPushOfRow.holds Try.pinned (OpenSpec.ofChange fnPushOfWrong)

/-- 'laws.FnExactWorldIn': WHATEVER THE INPUT: true; the input reads as it did. -/
def fnExactWorldInSpec : ChangeSpec := { name := "fnExactWorldIn", fn := fun _ => fun
  | [d1, d2] => { results := [.lit (.bool true)], args := [d1, d2] }
  | _ => none }
def fnExactWorldInRow : OpenClaim := { program := "ytgdpaijphaeimaa", sum := "fd5212ef5435bc5e1478e3ddfdd11bc280b48d25fd137ea77cdcda88e4e95304", func := "loop.example/parquetry/laws.FnExactWorldIn", spec := "fnExactWorldIn", unfollowed := true, recurses := true, apart := false }
def FnExactWorldInSaid : Prop := fnExactWorldInRow.holds Try.pinned (OpenSpec.ofChange fnExactWorldInSpec)

/-- ITS FALSE NEIGHBOUR: 'it returns false'. Refute it at one input. -/
def fnExactWorldInWrong : ChangeSpec := { name := "fnExactWorldIn", fn := fun _ => fun
  | [d1, d2] => { results := [.lit (.bool false)], args := [d1, d2] }
  | _ => none }
def FnExactWorldInWrongFalsely : Prop := fnExactWorldInRow.holds Try.pinned (OpenSpec.ofChange fnExactWorldInWrong)

/-- 'laws.FnExactWorldAt': WHATEVER THE INPUT: true; the input reads as it did. -/
def fnExactWorldAtSpec : ChangeSpec := { name := "fnExactWorldAt", fn := fun _ => fun
  | [d1, d2] => { results := [.lit (.bool true)], args := [d1, d2] }
  | _ => none }
def fnExactWorldAtRow : OpenClaim := { program := "ytgdpaijphaeimaa", sum := "fd5212ef5435bc5e1478e3ddfdd11bc280b48d25fd137ea77cdcda88e4e95304", func := "loop.example/parquetry/laws.FnExactWorldAt", spec := "fnExactWorldAt", unfollowed := true, recurses := true, apart := false }
def FnExactWorldAtSaid : Prop := fnExactWorldAtRow.holds Try.pinned (OpenSpec.ofChange fnExactWorldAtSpec)

/-- ITS FALSE NEIGHBOUR: 'it returns false'. Refute it at one input. -/
def fnExactWorldAtWrong : ChangeSpec := { name := "fnExactWorldAt", fn := fun _ => fun
  | [d1, d2] => { results := [.lit (.bool false)], args := [d1, d2] }
  | _ => none }
def FnExactWorldAtWrongFalsely : Prop := fnExactWorldAtRow.holds Try.pinned (OpenSpec.ofChange fnExactWorldAtWrong)

/-- 'laws.FnPushSlow': WHATEVER THE INPUT: true; the input reads as it did. -/
def fnPushSlowSpec : ChangeSpec := { name := "fnPushSlow", fn := fun _ => fun
  | [d] => { results := [.lit (.bool true)], args := [d] }
  | _ => none }
def fnPushSlowRow : OpenClaim := { program := "ytgdpaijphaeimaa", sum := "fd5212ef5435bc5e1478e3ddfdd11bc280b48d25fd137ea77cdcda88e4e95304", func := "loop.example/parquetry/laws.FnPushSlow", spec := "fnPushSlow", apart := false }
def FnPushSlowSaid : Prop := fnPushSlowRow.holds Try.pinned (OpenSpec.ofChange fnPushSlowSpec)

/-- ITS FALSE NEIGHBOUR: 'it returns false'. Refute it at one input. -/
def fnPushSlowWrong : ChangeSpec := { name := "fnPushSlow", fn := fun _ => fun
  | [d] => { results := [.lit (.bool false)], args := [d] }
  | _ => none }
def FnPushSlowWrongFalsely : Prop := fnPushSlowRow.holds Try.pinned (OpenSpec.ofChange fnPushSlowWrong)

/- THE SECOND FORM. 'bulk': how many values and letters a reading holds, each counted each time it is reached (what is shared counts as often as it is met; a slice's spare places count too). A statement '..UptoSaid' is the law's where the arguments, and the package variables that the reading takes, are together of bulk at most 1048576: NARROWER than '..Said'. Prove '..Said' where nothing that the law and all that it calls make is longer than what came in: it says more and counts as full. Else prove '..UptoSaid'. A law counts once. -/
mutual
def uptoBulk {H : Type} : DataW H → Nat
  | .lit (.string bytes) => bytes.length + 1
  | .lit _ => 1
  | .nil => 1
  | .ptr d => uptoBulk d + 1
  | .slice elems spare => uptoBulkAll elems + uptoBulkAll spare + 1
  | .agg parts => uptoBulkAll parts + 1
  | .iface _ d => uptoBulk d + 1
  | .map entries => uptoBulkEntries entries + 1
  | .held _ => 1
def uptoBulkAll {H : Type} : List (DataW H) → Nat
  | [] => 0
  | d :: r => uptoBulk d + uptoBulkAll r
def uptoBulkEntries {H : Type} : List (Lit × DataW H) → Nat
  | [] => 0
  | x :: r => uptoBulkEntry x + uptoBulkEntries r
def uptoBulkEntry {H : Type} : Lit × DataW H → Nat
  | (.string bytes, d) => bytes.length + uptoBulk d + 1
  | (_, d) => uptoBulk d + 1
 end
def uptoSmall : (H : Type) → List (DataW H) → Bool := fun _ ds => decide (uptoBulkAll ds ≤ 1048576)
def OpenSpec.upto (s : _root_.Go.ChangeSpec) : _root_.Go.OpenSpec := { _root_.Go.OpenSpec.ofChange s with cond := some uptoSmall }

/-- 'laws.FnBroadNew', WHERE WHAT IT READS IS OF BULK AT MOST 1048576: true; the input reads as it did. -/
def fnBroadNewUptoRow : OpenClaim := { program := "ytgdpaijphaeimaa", sum := "fd5212ef5435bc5e1478e3ddfdd11bc280b48d25fd137ea77cdcda88e4e95304", func := "loop.example/parquetry/laws.FnBroadNew", spec := "fnBroadNew", apart := false, narrowed := true }
def FnBroadNewUptoSaid : Prop := fnBroadNewUptoRow.holds Try.pinned (OpenSpec.upto fnBroadNewSpec)

/-- 'laws.FnExactBroadNew', WHERE WHAT IT READS IS OF BULK AT MOST 1048576: true; the input reads as it did. -/
def fnExactBroadNewUptoRow : OpenClaim := { program := "ytgdpaijphaeimaa", sum := "fd5212ef5435bc5e1478e3ddfdd11bc280b48d25fd137ea77cdcda88e4e95304", func := "loop.example/parquetry/laws.FnExactBroadNew", spec := "fnExactBroadNew", apart := false, narrowed := true }
def FnExactBroadNewUptoSaid : Prop := fnExactBroadNewUptoRow.holds Try.pinned (OpenSpec.upto fnExactBroadNewSpec)

/-- 'laws.FnRayShape', WHERE WHAT IT READS IS OF BULK AT MOST 1048576: true; the input reads as it did. -/
def fnRayShapeUptoRow : OpenClaim := { program := "ytgdpaijphaeimaa", sum := "fd5212ef5435bc5e1478e3ddfdd11bc280b48d25fd137ea77cdcda88e4e95304", func := "loop.example/parquetry/laws.FnRayShape", spec := "fnRayShape", apart := false, narrowed := true }
def FnRayShapeUptoSaid : Prop := fnRayShapeUptoRow.holds Try.pinned (OpenSpec.upto fnRayShapeSpec)

/-- 'laws.FnExactWorldOk', WHERE WHAT IT READS IS OF BULK AT MOST 1048576: true; the input reads as it did. -/
def fnExactWorldOkUptoRow : OpenClaim := { program := "ytgdpaijphaeimaa", sum := "fd5212ef5435bc5e1478e3ddfdd11bc280b48d25fd137ea77cdcda88e4e95304", func := "loop.example/parquetry/laws.FnExactWorldOk", spec := "fnExactWorldOk", unfollowed := true, recurses := true, apart := false, narrowed := true }
def FnExactWorldOkUptoSaid : Prop := fnExactWorldOkUptoRow.holds Try.pinned (OpenSpec.upto fnExactWorldOkSpec)

/-- 'laws.FnBroadOrder', WHERE WHAT IT READS IS OF BULK AT MOST 1048576: true; the input reads as it did. -/
def fnBroadOrderUptoRow : OpenClaim := { program := "ytgdpaijphaeimaa", sum := "fd5212ef5435bc5e1478e3ddfdd11bc280b48d25fd137ea77cdcda88e4e95304", func := "loop.example/parquetry/laws.FnBroadOrder", spec := "fnBroadOrder", inPlace := ["slices.overlaps[loop.example/parquetry/impl.Item]"], unfollowed := true, recurses := true, apart := false, narrowed := true }
def FnBroadOrderUptoSaid : Prop := fnBroadOrderUptoRow.holds Try.pinned (OpenSpec.upto fnBroadOrderSpec)

/-- 'laws.FnExactBroadPut', WHERE WHAT IT READS IS OF BULK AT MOST 1048576: true; the input reads as it did. -/
def fnExactBroadPutUptoRow : OpenClaim := { program := "ytgdpaijphaeimaa", sum := "fd5212ef5435bc5e1478e3ddfdd11bc280b48d25fd137ea77cdcda88e4e95304", func := "loop.example/parquetry/laws.FnExactBroadPut", spec := "fnExactBroadPut", inPlace := ["slices.overlaps[loop.example/parquetry/impl.Item]"], unfollowed := true, recurses := true, apart := false, narrowed := true }
def FnExactBroadPutUptoSaid : Prop := fnExactBroadPutUptoRow.holds Try.pinned (OpenSpec.upto fnExactBroadPutSpec)

/-- 'laws.FnClosing', WHERE WHAT IT READS IS OF BULK AT MOST 1048576: true; the input reads as it did. -/
def fnClosingUptoRow : OpenClaim := { program := "ytgdpaijphaeimaa", sum := "fd5212ef5435bc5e1478e3ddfdd11bc280b48d25fd137ea77cdcda88e4e95304", func := "loop.example/parquetry/laws.FnClosing", spec := "fnClosing", apart := false, narrowed := true }
def FnClosingUptoSaid : Prop := fnClosingUptoRow.holds Try.pinned (OpenSpec.upto fnClosingSpec)

/-- 'laws.FnBroadPut', WHERE WHAT IT READS IS OF BULK AT MOST 1048576: true; the input reads as it did. -/
def fnBroadPutUptoRow : OpenClaim := { program := "ytgdpaijphaeimaa", sum := "fd5212ef5435bc5e1478e3ddfdd11bc280b48d25fd137ea77cdcda88e4e95304", func := "loop.example/parquetry/laws.FnBroadPut", spec := "fnBroadPut", inPlace := ["slices.overlaps[loop.example/parquetry/impl.Item]"], unfollowed := true, recurses := true, apart := false, narrowed := true }
def FnBroadPutUptoSaid : Prop := fnBroadPutUptoRow.holds Try.pinned (OpenSpec.upto fnBroadPutSpec)

/-- 'laws.FnPushOf', WHERE WHAT IT READS IS OF BULK AT MOST 1048576: true; the input reads as it did. -/
def fnPushOfUptoRow : OpenClaim := { program := "ytgdpaijphaeimaa", sum := "fd5212ef5435bc5e1478e3ddfdd11bc280b48d25fd137ea77cdcda88e4e95304", func := "loop.example/parquetry/laws.FnPushOf", spec := "fnPushOf", apart := false, narrowed := true }
def FnPushOfUptoSaid : Prop := fnPushOfUptoRow.holds Try.pinned (OpenSpec.upto fnPushOfSpec)

/-- 'laws.FnExactWorldIn', WHERE WHAT IT READS IS OF BULK AT MOST 1048576: true; the input reads as it did. -/
def fnExactWorldInUptoRow : OpenClaim := { program := "ytgdpaijphaeimaa", sum := "fd5212ef5435bc5e1478e3ddfdd11bc280b48d25fd137ea77cdcda88e4e95304", func := "loop.example/parquetry/laws.FnExactWorldIn", spec := "fnExactWorldIn", unfollowed := true, recurses := true, apart := false, narrowed := true }
def FnExactWorldInUptoSaid : Prop := fnExactWorldInUptoRow.holds Try.pinned (OpenSpec.upto fnExactWorldInSpec)

/-- 'laws.FnExactWorldAt', WHERE WHAT IT READS IS OF BULK AT MOST 1048576: true; the input reads as it did. -/
def fnExactWorldAtUptoRow : OpenClaim := { program := "ytgdpaijphaeimaa", sum := "fd5212ef5435bc5e1478e3ddfdd11bc280b48d25fd137ea77cdcda88e4e95304", func := "loop.example/parquetry/laws.FnExactWorldAt", spec := "fnExactWorldAt", unfollowed := true, recurses := true, apart := false, narrowed := true }
def FnExactWorldAtUptoSaid : Prop := fnExactWorldAtUptoRow.holds Try.pinned (OpenSpec.upto fnExactWorldAtSpec)

/-- 'laws.FnPushSlow', WHERE WHAT IT READS IS OF BULK AT MOST 1048576: true; the input reads as it did. -/
def fnPushSlowUptoRow : OpenClaim := { program := "ytgdpaijphaeimaa", sum := "fd5212ef5435bc5e1478e3ddfdd11bc280b48d25fd137ea77cdcda88e4e95304", func := "loop.example/parquetry/laws.FnPushSlow", spec := "fnPushSlow", apart := false, narrowed := true }
def FnPushSlowUptoSaid : Prop := fnPushSlowUptoRow.holds Try.pinned (OpenSpec.upto fnPushSlowSpec)

end Rows
end Go.Proofs.Ytgdpaijphaeimaa
