/-
  No cell of these rows narrows 'for every input' (looked for: loops, veiled, ifaces, maps, wideKeys, modest, calm, conditions, laid).
  DERIVED. THE GIVEN ROWS OF THIS SEAT. 11 by the template 'for every input the law returns true; each argument reads behind the call as it read before'; 0 by the template 'total and deterministic' (their statements: YtdhbkcaaijgocaaGreatTotals.lean).
  GIVEN WITH THE SEED: the statements are not yours to turn. If you find one false, say at which input.
  Laid BY PROGRAM, IN A SANDBOX (cutbox-rows.mjs): the forced cells as the released guide's own fill.sh prints them over the translation bb0da94f019402a3… (all of the seat's roots in one cut). By AI agents, Wed Nov 11 2026. No macro, syntax, notation, axiom, sorry.
-/
import Derived.Test.YtdhbkcaaijgocaaGreatChecked
import GoSem.Claim
import GoSem.ClaimJoined
import GoSem.ClaimMapViews
import Derived.JoinedTies
import Derived.KernelRfl
namespace Go.Proofs.YtdhbkcaaijgocaaGreat
/- THE CELL 'sum', in the pinned program and in every row, IS THE sha256 OF THE DUMP (.gsa) THAT YtdhbkcaaijgocaaGreatProg.lean LOADS. Nothing in Lean hashes anything: it is a label: what it is worth is what the hold of that sum in a sandbox is worth. -/
noncomputable def Tryz.pinned : Pinned := { name := "ytdhbkcaaijgocaagreat", sum := "bb0da94f019402a3311a90b1a440fcef5924d9cb86d071864b8199f7918c83e9", checked := Tryz.checked }
namespace Rows
def none {H : Type} : Left H := { results := [], args := [] }

/-- 'laws.FnExactStep': WHATEVER THE INPUT: true; the input reads as it did. -/
def fnExactStepSpec : ChangeSpec := { name := "fnExactStep", fn := fun _ => fun
  | [d1, d2] => { results := [.lit (.bool true)], args := [d1, d2] }
  | _ => none }
def fnExactStepRow : OpenClaim := { program := "ytdhbkcaaijgocaagreat", sum := "bb0da94f019402a3311a90b1a440fcef5924d9cb86d071864b8199f7918c83e9", func := "loop.example/parquetry/laws.FnExactStep", spec := "fnExactStep", apart := false }
def FnExactStepSaid : Prop := fnExactStepRow.holds Tryz.pinned (OpenSpec.ofChange fnExactStepSpec)

/-- ITS FALSE NEIGHBOUR: 'it returns false'. Refute it at one input. -/
def fnExactStepWrong : ChangeSpec := { name := "fnExactStep", fn := fun _ => fun
  | [d1, d2] => { results := [.lit (.bool false)], args := [d1, d2] }
  | _ => none }
def FnExactStepWrongFalsely : Prop := fnExactStepRow.holds Tryz.pinned (OpenSpec.ofChange fnExactStepWrong)

/-- 'laws.FnExactSteps': WHATEVER THE INPUT: true; the input reads as it did. -/
def fnExactStepsSpec : ChangeSpec := { name := "fnExactSteps", fn := fun _ => fun
  | [d1, d2, d3] => { results := [.lit (.bool true)], args := [d1, d2, d3] }
  | _ => none }
def fnExactStepsRow : OpenClaim := { program := "ytdhbkcaaijgocaagreat", sum := "bb0da94f019402a3311a90b1a440fcef5924d9cb86d071864b8199f7918c83e9", func := "loop.example/parquetry/laws.FnExactSteps", spec := "fnExactSteps", apart := false }
def FnExactStepsSaid : Prop := fnExactStepsRow.holds Tryz.pinned (OpenSpec.ofChange fnExactStepsSpec)

/-- ITS FALSE NEIGHBOUR: 'it returns false'. Refute it at one input. -/
def fnExactStepsWrong : ChangeSpec := { name := "fnExactSteps", fn := fun _ => fun
  | [d1, d2, d3] => { results := [.lit (.bool false)], args := [d1, d2, d3] }
  | _ => none }
def FnExactStepsWrongFalsely : Prop := fnExactStepsRow.holds Tryz.pinned (OpenSpec.ofChange fnExactStepsWrong)

/-- 'laws.FnExactWorldStep': WHATEVER THE INPUT: true; the input reads as it did. -/
def fnExactWorldStepSpec : ChangeSpec := { name := "fnExactWorldStep", fn := fun _ => fun
  | [d] => { results := [.lit (.bool true)], args := [d] }
  | _ => none }
def fnExactWorldStepRow : OpenClaim := { program := "ytdhbkcaaijgocaagreat", sum := "bb0da94f019402a3311a90b1a440fcef5924d9cb86d071864b8199f7918c83e9", func := "loop.example/parquetry/laws.FnExactWorldStep", spec := "fnExactWorldStep", unfollowed := true, recurses := true, apart := false }
def FnExactWorldStepSaid : Prop := fnExactWorldStepRow.holds Tryz.pinned (OpenSpec.ofChange fnExactWorldStepSpec)

/-- ITS FALSE NEIGHBOUR: 'it returns false'. Refute it at one input. -/
def fnExactWorldStepWrong : ChangeSpec := { name := "fnExactWorldStep", fn := fun _ => fun
  | [d] => { results := [.lit (.bool false)], args := [d] }
  | _ => none }
def FnExactWorldStepWrongFalsely : Prop := fnExactWorldStepRow.holds Tryz.pinned (OpenSpec.ofChange fnExactWorldStepWrong)

/-- 'laws.FnPushAll': WHATEVER THE INPUT: true; the input reads as it did. -/
def fnPushAllSpec : ChangeSpec := { name := "fnPushAll", fn := fun _ => fun
  | [d] => { results := [.lit (.bool true)], args := [d] }
  | _ => none }
def fnPushAllRow : OpenClaim := { program := "ytdhbkcaaijgocaagreat", sum := "bb0da94f019402a3311a90b1a440fcef5924d9cb86d071864b8199f7918c83e9", func := "loop.example/parquetry/laws.FnPushAll", spec := "fnPushAll", unfollowed := true, recurses := true, apart := false }
def FnPushAllSaid : Prop := fnPushAllRow.holds Tryz.pinned (OpenSpec.ofChange fnPushAllSpec)

/-- ITS FALSE NEIGHBOUR: 'it returns false'. Refute it at one input. -/
def fnPushAllWrong : ChangeSpec := { name := "fnPushAll", fn := fun _ => fun
  | [d] => { results := [.lit (.bool false)], args := [d] }
  | _ => none }
def FnPushAllWrongFalsely : Prop := fnPushAllRow.holds Tryz.pinned (OpenSpec.ofChange fnPushAllWrong)

/-- 'laws.FnPushSome': WHATEVER THE INPUT: true; the input reads as it did. -/
def fnPushSomeSpec : ChangeSpec := { name := "fnPushSome", fn := fun _ => fun
  | [d] => { results := [.lit (.bool true)], args := [d] }
  | _ => none }
def fnPushSomeRow : OpenClaim := { program := "ytdhbkcaaijgocaagreat", sum := "bb0da94f019402a3311a90b1a440fcef5924d9cb86d071864b8199f7918c83e9", func := "loop.example/parquetry/laws.FnPushSome", spec := "fnPushSome", unfollowed := true, recurses := true, apart := false }
def FnPushSomeSaid : Prop := fnPushSomeRow.holds Tryz.pinned (OpenSpec.ofChange fnPushSomeSpec)

/-- ITS FALSE NEIGHBOUR: 'it returns false'. Refute it at one input. -/
def fnPushSomeWrong : ChangeSpec := { name := "fnPushSome", fn := fun _ => fun
  | [d] => { results := [.lit (.bool false)], args := [d] }
  | _ => none }
def FnPushSomeWrongFalsely : Prop := fnPushSomeRow.holds Tryz.pinned (OpenSpec.ofChange fnPushSomeWrong)

/-- 'laws.FnWorldIn': WHATEVER THE INPUT: true; the input reads as it did. -/
def fnWorldInSpec : ChangeSpec := { name := "fnWorldIn", fn := fun _ => fun
  | [d] => { results := [.lit (.bool true)], args := [d] }
  | _ => none }
def fnWorldInRow : OpenClaim := { program := "ytdhbkcaaijgocaagreat", sum := "bb0da94f019402a3311a90b1a440fcef5924d9cb86d071864b8199f7918c83e9", func := "loop.example/parquetry/laws.FnWorldIn", spec := "fnWorldIn", unfollowed := true, recurses := true, apart := false }
def FnWorldInSaid : Prop := fnWorldInRow.holds Tryz.pinned (OpenSpec.ofChange fnWorldInSpec)

/-- ITS FALSE NEIGHBOUR: 'it returns false'. Refute it at one input. -/
def fnWorldInWrong : ChangeSpec := { name := "fnWorldIn", fn := fun _ => fun
  | [d] => { results := [.lit (.bool false)], args := [d] }
  | _ => none }
def FnWorldInWrongFalsely : Prop := fnWorldInRow.holds Tryz.pinned (OpenSpec.ofChange fnWorldInWrong)

/-- 'laws.FnWorldAt': WHATEVER THE INPUT: true; the input reads as it did. -/
def fnWorldAtSpec : ChangeSpec := { name := "fnWorldAt", fn := fun _ => fun
  | [d] => { results := [.lit (.bool true)], args := [d] }
  | _ => none }
def fnWorldAtRow : OpenClaim := { program := "ytdhbkcaaijgocaagreat", sum := "bb0da94f019402a3311a90b1a440fcef5924d9cb86d071864b8199f7918c83e9", func := "loop.example/parquetry/laws.FnWorldAt", spec := "fnWorldAt", unfollowed := true, recurses := true, apart := false }
def FnWorldAtSaid : Prop := fnWorldAtRow.holds Tryz.pinned (OpenSpec.ofChange fnWorldAtSpec)

/-- ITS FALSE NEIGHBOUR: 'it returns false'. Refute it at one input. -/
def fnWorldAtWrong : ChangeSpec := { name := "fnWorldAt", fn := fun _ => fun
  | [d] => { results := [.lit (.bool false)], args := [d] }
  | _ => none }
def FnWorldAtWrongFalsely : Prop := fnWorldAtRow.holds Tryz.pinned (OpenSpec.ofChange fnWorldAtWrong)

/-- 'laws.FnStepPairs': WHATEVER THE INPUT: true; the input reads as it did. -/
def fnStepPairsSpec : ChangeSpec := { name := "fnStepPairs", fn := fun _ => fun
  | [d] => { results := [.lit (.bool true)], args := [d] }
  | _ => none }
def fnStepPairsRow : OpenClaim := { program := "ytdhbkcaaijgocaagreat", sum := "bb0da94f019402a3311a90b1a440fcef5924d9cb86d071864b8199f7918c83e9", func := "loop.example/parquetry/laws.FnStepPairs", spec := "fnStepPairs", inPlace := ["slices.overlaps[loop.example/parquetry/impl.Item]"], unfollowed := true, recurses := true, apart := false }
def FnStepPairsSaid : Prop := fnStepPairsRow.holds Tryz.pinned (OpenSpec.ofChange fnStepPairsSpec)

/-- ITS FALSE NEIGHBOUR: 'it returns false'. Refute it at one input. -/
def fnStepPairsWrong : ChangeSpec := { name := "fnStepPairs", fn := fun _ => fun
  | [d] => { results := [.lit (.bool false)], args := [d] }
  | _ => none }
def FnStepPairsWrongFalsely : Prop := fnStepPairsRow.holds Tryz.pinned (OpenSpec.ofChange fnStepPairsWrong)

/-- 'laws.FnApart': WHATEVER THE INPUT: true; the input reads as it did. -/
def fnApartSpec : ChangeSpec := { name := "fnApart", fn := fun _ => fun
  | [d] => { results := [.lit (.bool true)], args := [d] }
  | _ => none }
def fnApartRow : OpenClaim := { program := "ytdhbkcaaijgocaagreat", sum := "bb0da94f019402a3311a90b1a440fcef5924d9cb86d071864b8199f7918c83e9", func := "loop.example/parquetry/laws.FnApart", spec := "fnApart", unfollowed := true, recurses := true, apart := false }
def FnApartSaid : Prop := fnApartRow.holds Tryz.pinned (OpenSpec.ofChange fnApartSpec)

/-- ITS FALSE NEIGHBOUR: 'it returns false'. Refute it at one input. -/
def fnApartWrong : ChangeSpec := { name := "fnApart", fn := fun _ => fun
  | [d] => { results := [.lit (.bool false)], args := [d] }
  | _ => none }
def FnApartWrongFalsely : Prop := fnApartRow.holds Tryz.pinned (OpenSpec.ofChange fnApartWrong)

/-- 'laws.FnWorldRay': WHATEVER THE INPUT: true; the input reads as it did. -/
def fnWorldRaySpec : ChangeSpec := { name := "fnWorldRay", fn := fun _ => fun
  | [d] => { results := [.lit (.bool true)], args := [d] }
  | _ => none }
def fnWorldRayRow : OpenClaim := { program := "ytdhbkcaaijgocaagreat", sum := "bb0da94f019402a3311a90b1a440fcef5924d9cb86d071864b8199f7918c83e9", func := "loop.example/parquetry/laws.FnWorldRay", spec := "fnWorldRay", unfollowed := true, recurses := true, apart := false }
def FnWorldRaySaid : Prop := fnWorldRayRow.holds Tryz.pinned (OpenSpec.ofChange fnWorldRaySpec)

/-- ITS FALSE NEIGHBOUR: 'it returns false'. Refute it at one input. -/
def fnWorldRayWrong : ChangeSpec := { name := "fnWorldRay", fn := fun _ => fun
  | [d] => { results := [.lit (.bool false)], args := [d] }
  | _ => none }
def FnWorldRayWrongFalsely : Prop := fnWorldRayRow.holds Tryz.pinned (OpenSpec.ofChange fnWorldRayWrong)

/-- 'laws.FnWorldPush': WHATEVER THE INPUT: true; the input reads as it did. -/
def fnWorldPushSpec : ChangeSpec := { name := "fnWorldPush", fn := fun _ => fun
  | [d] => { results := [.lit (.bool true)], args := [d] }
  | _ => none }
def fnWorldPushRow : OpenClaim := { program := "ytdhbkcaaijgocaagreat", sum := "bb0da94f019402a3311a90b1a440fcef5924d9cb86d071864b8199f7918c83e9", func := "loop.example/parquetry/laws.FnWorldPush", spec := "fnWorldPush", unfollowed := true, recurses := true, apart := false }
def FnWorldPushSaid : Prop := fnWorldPushRow.holds Tryz.pinned (OpenSpec.ofChange fnWorldPushSpec)

/-- ITS FALSE NEIGHBOUR: 'it returns false'. Refute it at one input. -/
def fnWorldPushWrong : ChangeSpec := { name := "fnWorldPush", fn := fun _ => fun
  | [d] => { results := [.lit (.bool false)], args := [d] }
  | _ => none }
def FnWorldPushWrongFalsely : Prop := fnWorldPushRow.holds Tryz.pinned (OpenSpec.ofChange fnWorldPushWrong)

/- THE SECOND FORM. 'bulk': how many values and letters a reading holds, each counted each time it is reached (what is shared counts as often as it is met; a slice's spare places count too). A statement '..UptoSaid' is the law's where the arguments, and the package variables that the reading takes, are together of bulk at most 1048576: NARROWER than '..Said'. Prove '..Said' where nothing that the law and all that it calls make is longer than what came in: it says more and counts as full. Else prove '..UptoSaid'. A law counts once. -/
mutual
def uptoBulk {H : Type} : DataW H → Nat
  | .lit (.string bytes) => bytes.length + 1
  | .lit _ => 1
  | .nil => 1
  | .ptr d => uptoBulk d + 1
  | .slice elems spare => uptoBulkAll elems + uptoBulkAll spare + 1
  | .agg parts => uptoBulkAll parts + 1
  | .iface _ d => uptoBulk d + 1
  | .map entries => uptoBulkEntries entries + 1
  | .held _ => 1
def uptoBulkAll {H : Type} : List (DataW H) → Nat
  | [] => 0
  | d :: r => uptoBulk d + uptoBulkAll r
def uptoBulkEntries {H : Type} : List (Lit × DataW H) → Nat
  | [] => 0
  | x :: r => uptoBulkEntry x + uptoBulkEntries r
def uptoBulkEntry {H : Type} : Lit × DataW H → Nat
  | (.string bytes, d) => bytes.length + uptoBulk d + 1
  | (_, d) => uptoBulk d + 1
 end
def uptoSmall : (H : Type) → List (DataW H) → Bool := fun _ ds => decide (uptoBulkAll ds ≤ 1048576)
def OpenSpec.upto (s : _root_.Go.ChangeSpec) : _root_.Go.OpenSpec := { _root_.Go.OpenSpec.ofChange s with cond := some uptoSmall }

/-- 'laws.FnExactStep', WHERE WHAT IT READS IS OF BULK AT MOST 1048576: true; the input reads as it did. -/
def fnExactStepUptoRow : OpenClaim := { program := "ytdhbkcaaijgocaagreat", sum := "bb0da94f019402a3311a90b1a440fcef5924d9cb86d071864b8199f7918c83e9", func := "loop.example/parquetry/laws.FnExactStep", spec := "fnExactStep", apart := false, narrowed := true }
def FnExactStepUptoSaid : Prop := fnExactStepUptoRow.holds Tryz.pinned (OpenSpec.upto fnExactStepSpec)

/-- 'laws.FnExactSteps', WHERE WHAT IT READS IS OF BULK AT MOST 1048576: true; the input reads as it did. -/
def fnExactStepsUptoRow : OpenClaim := { program := "ytdhbkcaaijgocaagreat", sum := "bb0da94f019402a3311a90b1a440fcef5924d9cb86d071864b8199f7918c83e9", func := "loop.example/parquetry/laws.FnExactSteps", spec := "fnExactSteps", apart := false, narrowed := true }
def FnExactStepsUptoSaid : Prop := fnExactStepsUptoRow.holds Tryz.pinned (OpenSpec.upto fnExactStepsSpec)

/-- 'laws.FnExactWorldStep', WHERE WHAT IT READS IS OF BULK AT MOST 1048576: true; the input reads as it did. -/
def fnExactWorldStepUptoRow : OpenClaim := { program := "ytdhbkcaaijgocaagreat", sum := "bb0da94f019402a3311a90b1a440fcef5924d9cb86d071864b8199f7918c83e9", func := "loop.example/parquetry/laws.FnExactWorldStep", spec := "fnExactWorldStep", unfollowed := true, recurses := true, apart := false, narrowed := true }
def FnExactWorldStepUptoSaid : Prop := fnExactWorldStepUptoRow.holds Tryz.pinned (OpenSpec.upto fnExactWorldStepSpec)

/-- 'laws.FnPushAll', WHERE WHAT IT READS IS OF BULK AT MOST 1048576: true; the input reads as it did. -/
def fnPushAllUptoRow : OpenClaim := { program := "ytdhbkcaaijgocaagreat", sum := "bb0da94f019402a3311a90b1a440fcef5924d9cb86d071864b8199f7918c83e9", func := "loop.example/parquetry/laws.FnPushAll", spec := "fnPushAll", unfollowed := true, recurses := true, apart := false, narrowed := true }
def FnPushAllUptoSaid : Prop := fnPushAllUptoRow.holds Tryz.pinned (OpenSpec.upto fnPushAllSpec)

/-- 'laws.FnPushSome', WHERE WHAT IT READS IS OF BULK AT MOST 1048576: true; the input reads as it did. -/
def fnPushSomeUptoRow : OpenClaim := { program := "ytdhbkcaaijgocaagreat", sum := "bb0da94f019402a3311a90b1a440fcef5924d9cb86d071864b8199f7918c83e9", func := "loop.example/parquetry/laws.FnPushSome", spec := "fnPushSome", unfollowed := true, recurses := true, apart := false, narrowed := true }
def FnPushSomeUptoSaid : Prop := fnPushSomeUptoRow.holds Tryz.pinned (OpenSpec.upto fnPushSomeSpec)

/-- 'laws.FnWorldIn', WHERE WHAT IT READS IS OF BULK AT MOST 1048576: true; the input reads as it did. -/
def fnWorldInUptoRow : OpenClaim := { program := "ytdhbkcaaijgocaagreat", sum := "bb0da94f019402a3311a90b1a440fcef5924d9cb86d071864b8199f7918c83e9", func := "loop.example/parquetry/laws.FnWorldIn", spec := "fnWorldIn", unfollowed := true, recurses := true, apart := false, narrowed := true }
def FnWorldInUptoSaid : Prop := fnWorldInUptoRow.holds Tryz.pinned (OpenSpec.upto fnWorldInSpec)

/-- 'laws.FnWorldAt', WHERE WHAT IT READS IS OF BULK AT MOST 1048576: true; the input reads as it did. -/
def fnWorldAtUptoRow : OpenClaim := { program := "ytdhbkcaaijgocaagreat", sum := "bb0da94f019402a3311a90b1a440fcef5924d9cb86d071864b8199f7918c83e9", func := "loop.example/parquetry/laws.FnWorldAt", spec := "fnWorldAt", unfollowed := true, recurses := true, apart := false, narrowed := true }
def FnWorldAtUptoSaid : Prop := fnWorldAtUptoRow.holds Tryz.pinned (OpenSpec.upto fnWorldAtSpec)

/-- 'laws.FnStepPairs', WHERE WHAT IT READS IS OF BULK AT MOST 1048576: true; the input reads as it did. -/
def fnStepPairsUptoRow : OpenClaim := { program := "ytdhbkcaaijgocaagreat", sum := "bb0da94f019402a3311a90b1a440fcef5924d9cb86d071864b8199f7918c83e9", func := "loop.example/parquetry/laws.FnStepPairs", spec := "fnStepPairs", inPlace := ["slices.overlaps[loop.example/parquetry/impl.Item]"], unfollowed := true, recurses := true, apart := false, narrowed := true }
def FnStepPairsUptoSaid : Prop := fnStepPairsUptoRow.holds Tryz.pinned (OpenSpec.upto fnStepPairsSpec)

/-- 'laws.FnApart', WHERE WHAT IT READS IS OF BULK AT MOST 1048576: true; the input reads as it did. -/
def fnApartUptoRow : OpenClaim := { program := "ytdhbkcaaijgocaagreat", sum := "bb0da94f019402a3311a90b1a440fcef5924d9cb86d071864b8199f7918c83e9", func := "loop.example/parquetry/laws.FnApart", spec := "fnApart", unfollowed := true, recurses := true, apart := false, narrowed := true }
def FnApartUptoSaid : Prop := fnApartUptoRow.holds Tryz.pinned (OpenSpec.upto fnApartSpec)

/-- 'laws.FnWorldRay', WHERE WHAT IT READS IS OF BULK AT MOST 1048576: true; the input reads as it did. -/
def fnWorldRayUptoRow : OpenClaim := { program := "ytdhbkcaaijgocaagreat", sum := "bb0da94f019402a3311a90b1a440fcef5924d9cb86d071864b8199f7918c83e9", func := "loop.example/parquetry/laws.FnWorldRay", spec := "fnWorldRay", unfollowed := true, recurses := true, apart := false, narrowed := true }
def FnWorldRayUptoSaid : Prop := fnWorldRayUptoRow.holds Tryz.pinned (OpenSpec.upto fnWorldRaySpec)

/-- 'laws.FnWorldPush', WHERE WHAT IT READS IS OF BULK AT MOST 1048576: true; the input reads as it did. -/
def fnWorldPushUptoRow : OpenClaim := { program := "ytdhbkcaaijgocaagreat", sum := "bb0da94f019402a3311a90b1a440fcef5924d9cb86d071864b8199f7918c83e9", func := "loop.example/parquetry/laws.FnWorldPush", spec := "fnWorldPush", unfollowed := true, recurses := true, apart := false, narrowed := true }
def FnWorldPushUptoSaid : Prop := fnWorldPushUptoRow.holds Tryz.pinned (OpenSpec.upto fnWorldPushSpec)

end Rows
end Go.Proofs.YtdhbkcaaijgocaaGreat
