/-
  No cell of these rows narrows 'for every input' (looked for: loops, veiled, ifaces, maps, wideKeys, modest, calm, conditions, laid).
  DERIVED. THE GIVEN ROWS OF THIS SEAT. 8 by the template 'for every input the law returns true; each argument reads behind the call as it read before'; 0 by the template 'total and deterministic' (their statements: YthkdelepjndacaaTotals.lean).
  GIVEN WITH THE SEED: the statements are not yours to turn. If you find one false, say at which input.
  Laid BY PROGRAM, IN A SANDBOX (cutbox-rows.mjs): the forced cells as the released guide's own fill.sh prints them over the translation d1920ab6a6349ce9… (all of the seat's roots in one cut). By AI agents, Wed Nov 11 2026. No macro, syntax, notation, axiom, sorry.
-/
import Derived.Test.YthkdelepjndacaaChecked
import GoSem.Claim
import GoSem.ClaimJoined
import GoSem.ClaimMapViews
import Derived.JoinedTies
import Derived.KernelRfl
namespace Go.Proofs.Ythkdelepjndacaa
/- THE CELL 'sum', in the pinned program and in every row, IS THE sha256 OF THE DUMP (.gsa) THAT YthkdelepjndacaaProg.lean LOADS. Nothing in Lean hashes anything: it is a label: what it is worth is what the hold of that sum in a sandbox is worth. -/
noncomputable def Try.pinned : Pinned := { name := "ythkdelepjndacaa", sum := "d1920ab6a6349ce9ab731e52a408be27580f6dbbe48d1114baeb3fcc04269eba", checked := Try.checked }
namespace Rows
def none {H : Type} : Left H := { results := [], args := [] }

/-- 'laws.FnExactApart': WHATEVER THE INPUT: true; the input reads as it did. -/
def fnExactApartSpec : ChangeSpec := { name := "fnExactApart", fn := fun _ => fun
  | [d1, d2] => { results := [.lit (.bool true)], args := [d1, d2] }
  | _ => none }
def fnExactApartRow : OpenClaim := { program := "ythkdelepjndacaa", sum := "d1920ab6a6349ce9ab731e52a408be27580f6dbbe48d1114baeb3fcc04269eba", func := "loop.example/parquetry/laws.FnExactApart", spec := "fnExactApart", unfollowed := true, recurses := true, apart := false }
def FnExactApartSaid : Prop := fnExactApartRow.holds Try.pinned (OpenSpec.ofChange fnExactApartSpec)

/-- ITS FALSE NEIGHBOUR: 'it returns false'. Refute it at one input. -/
def fnExactApartWrong : ChangeSpec := { name := "fnExactApart", fn := fun _ => fun
  | [d1, d2] => { results := [.lit (.bool false)], args := [d1, d2] }
  | _ => none }
def FnExactApartWrongFalsely : Prop := fnExactApartRow.holds Try.pinned (OpenSpec.ofChange fnExactApartWrong)

/-- 'laws.FnExactWorldRay': WHATEVER THE INPUT: true; the input reads as it did. -/
def fnExactWorldRaySpec : ChangeSpec := { name := "fnExactWorldRay", fn := fun _ => fun
  | [d1, d2] => { results := [.lit (.bool true)], args := [d1, d2] }
  | _ => none }
def fnExactWorldRayRow : OpenClaim := { program := "ythkdelepjndacaa", sum := "d1920ab6a6349ce9ab731e52a408be27580f6dbbe48d1114baeb3fcc04269eba", func := "loop.example/parquetry/laws.FnExactWorldRay", spec := "fnExactWorldRay", unfollowed := true, recurses := true, apart := false }
def FnExactWorldRaySaid : Prop := fnExactWorldRayRow.holds Try.pinned (OpenSpec.ofChange fnExactWorldRaySpec)

/-- ITS FALSE NEIGHBOUR: 'it returns false'. Refute it at one input. -/
def fnExactWorldRayWrong : ChangeSpec := { name := "fnExactWorldRay", fn := fun _ => fun
  | [d1, d2] => { results := [.lit (.bool false)], args := [d1, d2] }
  | _ => none }
def FnExactWorldRayWrongFalsely : Prop := fnExactWorldRayRow.holds Try.pinned (OpenSpec.ofChange fnExactWorldRayWrong)

/-- 'laws.FnExactWorldPush': WHATEVER THE INPUT: true; the input reads as it did. -/
def fnExactWorldPushSpec : ChangeSpec := { name := "fnExactWorldPush", fn := fun _ => fun
  | [d1, d2, d3] => { results := [.lit (.bool true)], args := [d1, d2, d3] }
  | _ => none }
def fnExactWorldPushRow : OpenClaim := { program := "ythkdelepjndacaa", sum := "d1920ab6a6349ce9ab731e52a408be27580f6dbbe48d1114baeb3fcc04269eba", func := "loop.example/parquetry/laws.FnExactWorldPush", spec := "fnExactWorldPush", unfollowed := true, recurses := true, apart := false }
def FnExactWorldPushSaid : Prop := fnExactWorldPushRow.holds Try.pinned (OpenSpec.ofChange fnExactWorldPushSpec)

/-- ITS FALSE NEIGHBOUR: 'it returns false'. Refute it at one input. -/
def fnExactWorldPushWrong : ChangeSpec := { name := "fnExactWorldPush", fn := fun _ => fun
  | [d1, d2, d3] => { results := [.lit (.bool false)], args := [d1, d2, d3] }
  | _ => none }
def FnExactWorldPushWrongFalsely : Prop := fnExactWorldPushRow.holds Try.pinned (OpenSpec.ofChange fnExactWorldPushWrong)

/-- 'laws.FnExactStepPairs': WHATEVER THE INPUT: true; the input reads as it did. -/
def fnExactStepPairsSpec : ChangeSpec := { name := "fnExactStepPairs", fn := fun _ => fun
  | [d] => { results := [.lit (.bool true)], args := [d] }
  | _ => none }
def fnExactStepPairsRow : OpenClaim := { program := "ythkdelepjndacaa", sum := "d1920ab6a6349ce9ab731e52a408be27580f6dbbe48d1114baeb3fcc04269eba", func := "loop.example/parquetry/laws.FnExactStepPairs", spec := "fnExactStepPairs", apart := false }
def FnExactStepPairsSaid : Prop := fnExactStepPairsRow.holds Try.pinned (OpenSpec.ofChange fnExactStepPairsSpec)

/-- ITS FALSE NEIGHBOUR: 'it returns false'. Refute it at one input. -/
def fnExactStepPairsWrong : ChangeSpec := { name := "fnExactStepPairs", fn := fun _ => fun
  | [d] => { results := [.lit (.bool false)], args := [d] }
  | _ => none }
def FnExactStepPairsWrongFalsely : Prop := fnExactStepPairsRow.holds Try.pinned (OpenSpec.ofChange fnExactStepPairsWrong)

/-- 'laws.FnExactPushAll': WHATEVER THE INPUT: true; the input reads as it did. -/
def fnExactPushAllSpec : ChangeSpec := { name := "fnExactPushAll", fn := fun _ => fun
  | [d1, d2] => { results := [.lit (.bool true)], args := [d1, d2] }
  | _ => none }
def fnExactPushAllRow : OpenClaim := { program := "ythkdelepjndacaa", sum := "d1920ab6a6349ce9ab731e52a408be27580f6dbbe48d1114baeb3fcc04269eba", func := "loop.example/parquetry/laws.FnExactPushAll", spec := "fnExactPushAll", unfollowed := true, recurses := true, apart := false }
def FnExactPushAllSaid : Prop := fnExactPushAllRow.holds Try.pinned (OpenSpec.ofChange fnExactPushAllSpec)

/-- ITS FALSE NEIGHBOUR: 'it returns false'. Refute it at one input. -/
def fnExactPushAllWrong : ChangeSpec := { name := "fnExactPushAll", fn := fun _ => fun
  | [d1, d2] => { results := [.lit (.bool false)], args := [d1, d2] }
  | _ => none }
def FnExactPushAllWrongFalsely : Prop := fnExactPushAllRow.holds Try.pinned (OpenSpec.ofChange fnExactPushAllWrong)

/-- 'laws.FnExactWorldPut': WHATEVER THE INPUT: true; the input reads as it did. -/
def fnExactWorldPutSpec : ChangeSpec := { name := "fnExactWorldPut", fn := fun _ => fun
  | [d1, d2] => { results := [.lit (.bool true)], args := [d1, d2] }
  | _ => none }
def fnExactWorldPutRow : OpenClaim := { program := "ythkdelepjndacaa", sum := "d1920ab6a6349ce9ab731e52a408be27580f6dbbe48d1114baeb3fcc04269eba", func := "loop.example/parquetry/laws.FnExactWorldPut", spec := "fnExactWorldPut", inPlace := ["slices.overlaps[loop.example/parquetry/impl.Body]"], unfollowed := true, recurses := true, apart := false }
def FnExactWorldPutSaid : Prop := fnExactWorldPutRow.holds Try.pinned (OpenSpec.ofChange fnExactWorldPutSpec)

/-- ITS FALSE NEIGHBOUR: 'it returns false'. Refute it at one input. -/
def fnExactWorldPutWrong : ChangeSpec := { name := "fnExactWorldPut", fn := fun _ => fun
  | [d1, d2] => { results := [.lit (.bool false)], args := [d1, d2] }
  | _ => none }
def FnExactWorldPutWrongFalsely : Prop := fnExactWorldPutRow.holds Try.pinned (OpenSpec.ofChange fnExactWorldPutWrong)

/-- 'laws.FnExactWorldGone': WHATEVER THE INPUT: true; the input reads as it did. -/
def fnExactWorldGoneSpec : ChangeSpec := { name := "fnExactWorldGone", fn := fun _ => fun
  | [d1, d2] => { results := [.lit (.bool true)], args := [d1, d2] }
  | _ => none }
def fnExactWorldGoneRow : OpenClaim := { program := "ythkdelepjndacaa", sum := "d1920ab6a6349ce9ab731e52a408be27580f6dbbe48d1114baeb3fcc04269eba", func := "loop.example/parquetry/laws.FnExactWorldGone", spec := "fnExactWorldGone", unfollowed := true, recurses := true, apart := false }
def FnExactWorldGoneSaid : Prop := fnExactWorldGoneRow.holds Try.pinned (OpenSpec.ofChange fnExactWorldGoneSpec)

/-- ITS FALSE NEIGHBOUR: 'it returns false'. Refute it at one input. -/
def fnExactWorldGoneWrong : ChangeSpec := { name := "fnExactWorldGone", fn := fun _ => fun
  | [d1, d2] => { results := [.lit (.bool false)], args := [d1, d2] }
  | _ => none }
def FnExactWorldGoneWrongFalsely : Prop := fnExactWorldGoneRow.holds Try.pinned (OpenSpec.ofChange fnExactWorldGoneWrong)

/-- 'laws.FnWorldNew': WHATEVER THE INPUT: true; the input reads as it did. -/
def fnWorldNewSpec : ChangeSpec := { name := "fnWorldNew", fn := fun _ => fun
  | [d] => { results := [.lit (.bool true)], args := [d] }
  | _ => none }
def fnWorldNewRow : OpenClaim := { program := "ythkdelepjndacaa", sum := "d1920ab6a6349ce9ab731e52a408be27580f6dbbe48d1114baeb3fcc04269eba", func := "loop.example/parquetry/laws.FnWorldNew", spec := "fnWorldNew", unfollowed := true, recurses := true, apart := false }
def FnWorldNewSaid : Prop := fnWorldNewRow.holds Try.pinned (OpenSpec.ofChange fnWorldNewSpec)

/-- ITS FALSE NEIGHBOUR: 'it returns false'. Refute it at one input. -/
def fnWorldNewWrong : ChangeSpec := { name := "fnWorldNew", fn := fun _ => fun
  | [d] => { results := [.lit (.bool false)], args := [d] }
  | _ => none }
def FnWorldNewWrongFalsely : Prop := fnWorldNewRow.holds Try.pinned (OpenSpec.ofChange fnWorldNewWrong)

/- THE SECOND FORM. 'bulk': how many values and letters a reading holds, each counted each time it is reached (what is shared counts as often as it is met; a slice's spare places count too). A statement '..UptoSaid' is the law's where the arguments, and the package variables that the reading takes, are together of bulk at most 1048576: NARROWER than '..Said'. Prove '..Said' where nothing that the law and all that it calls make is longer than what came in: it says more and counts as full. Else prove '..UptoSaid'. A law counts once. -/
mutual
def uptoBulk {H : Type} : DataW H → Nat
  | .lit (.string bytes) => bytes.length + 1
  | .lit _ => 1
  | .nil => 1
  | .ptr d => uptoBulk d + 1
  | .slice elems spare => uptoBulkAll elems + uptoBulkAll spare + 1
  | .agg parts => uptoBulkAll parts + 1
  | .iface _ d => uptoBulk d + 1
  | .map entries => uptoBulkEntries entries + 1
  | .held _ => 1
def uptoBulkAll {H : Type} : List (DataW H) → Nat
  | [] => 0
  | d :: r => uptoBulk d + uptoBulkAll r
def uptoBulkEntries {H : Type} : List (Lit × DataW H) → Nat
  | [] => 0
  | x :: r => uptoBulkEntry x + uptoBulkEntries r
def uptoBulkEntry {H : Type} : Lit × DataW H → Nat
  | (.string bytes, d) => bytes.length + uptoBulk d + 1
  | (_, d) => uptoBulk d + 1
 end
def uptoSmall : (H : Type) → List (DataW H) → Bool := fun _ ds => decide (uptoBulkAll ds ≤ 1048576)
def OpenSpec.upto (s : _root_.Go.ChangeSpec) : _root_.Go.OpenSpec := { _root_.Go.OpenSpec.ofChange s with cond := some uptoSmall }

/-- 'laws.FnExactApart', WHERE WHAT IT READS IS OF BULK AT MOST 1048576: true; the input reads as it did. -/
def fnExactApartUptoRow : OpenClaim := { program := "ythkdelepjndacaa", sum := "d1920ab6a6349ce9ab731e52a408be27580f6dbbe48d1114baeb3fcc04269eba", func := "loop.example/parquetry/laws.FnExactApart", spec := "fnExactApart", unfollowed := true, recurses := true, apart := false, narrowed := true }
def FnExactApartUptoSaid : Prop := fnExactApartUptoRow.holds Try.pinned (OpenSpec.upto fnExactApartSpec)

/-- 'laws.FnExactWorldRay', WHERE WHAT IT READS IS OF BULK AT MOST 1048576: true; the input reads as it did. -/
def fnExactWorldRayUptoRow : OpenClaim := { program := "ythkdelepjndacaa", sum := "d1920ab6a6349ce9ab731e52a408be27580f6dbbe48d1114baeb3fcc04269eba", func := "loop.example/parquetry/laws.FnExactWorldRay", spec := "fnExactWorldRay", unfollowed := true, recurses := true, apart := false, narrowed := true }
def FnExactWorldRayUptoSaid : Prop := fnExactWorldRayUptoRow.holds Try.pinned (OpenSpec.upto fnExactWorldRaySpec)

/-- 'laws.FnExactWorldPush', WHERE WHAT IT READS IS OF BULK AT MOST 1048576: true; the input reads as it did. -/
def fnExactWorldPushUptoRow : OpenClaim := { program := "ythkdelepjndacaa", sum := "d1920ab6a6349ce9ab731e52a408be27580f6dbbe48d1114baeb3fcc04269eba", func := "loop.example/parquetry/laws.FnExactWorldPush", spec := "fnExactWorldPush", unfollowed := true, recurses := true, apart := false, narrowed := true }
def FnExactWorldPushUptoSaid : Prop := fnExactWorldPushUptoRow.holds Try.pinned (OpenSpec.upto fnExactWorldPushSpec)

/-- 'laws.FnExactStepPairs', WHERE WHAT IT READS IS OF BULK AT MOST 1048576: true; the input reads as it did. -/
def fnExactStepPairsUptoRow : OpenClaim := { program := "ythkdelepjndacaa", sum := "d1920ab6a6349ce9ab731e52a408be27580f6dbbe48d1114baeb3fcc04269eba", func := "loop.example/parquetry/laws.FnExactStepPairs", spec := "fnExactStepPairs", apart := false, narrowed := true }
def FnExactStepPairsUptoSaid : Prop := fnExactStepPairsUptoRow.holds Try.pinned (OpenSpec.upto fnExactStepPairsSpec)

/-- 'laws.FnExactPushAll', WHERE WHAT IT READS IS OF BULK AT MOST 1048576: true; the input reads as it did. -/
def fnExactPushAllUptoRow : OpenClaim := { program := "ythkdelepjndacaa", sum := "d1920ab6a6349ce9ab731e52a408be27580f6dbbe48d1114baeb3fcc04269eba", func := "loop.example/parquetry/laws.FnExactPushAll", spec := "fnExactPushAll", unfollowed := true, recurses := true, apart := false, narrowed := true }
def FnExactPushAllUptoSaid : Prop := fnExactPushAllUptoRow.holds Try.pinned (OpenSpec.upto fnExactPushAllSpec)

/-- 'laws.FnExactWorldPut', WHERE WHAT IT READS IS OF BULK AT MOST 1048576: true; the input reads as it did. -/
def fnExactWorldPutUptoRow : OpenClaim := { program := "ythkdelepjndacaa", sum := "d1920ab6a6349ce9ab731e52a408be27580f6dbbe48d1114baeb3fcc04269eba", func := "loop.example/parquetry/laws.FnExactWorldPut", spec := "fnExactWorldPut", inPlace := ["slices.overlaps[loop.example/parquetry/impl.Body]"], unfollowed := true, recurses := true, apart := false, narrowed := true }
def FnExactWorldPutUptoSaid : Prop := fnExactWorldPutUptoRow.holds Try.pinned (OpenSpec.upto fnExactWorldPutSpec)

/-- 'laws.FnExactWorldGone', WHERE WHAT IT READS IS OF BULK AT MOST 1048576: true; the input reads as it did. -/
def fnExactWorldGoneUptoRow : OpenClaim := { program := "ythkdelepjndacaa", sum := "d1920ab6a6349ce9ab731e52a408be27580f6dbbe48d1114baeb3fcc04269eba", func := "loop.example/parquetry/laws.FnExactWorldGone", spec := "fnExactWorldGone", unfollowed := true, recurses := true, apart := false, narrowed := true }
def FnExactWorldGoneUptoSaid : Prop := fnExactWorldGoneUptoRow.holds Try.pinned (OpenSpec.upto fnExactWorldGoneSpec)

/-- 'laws.FnWorldNew', WHERE WHAT IT READS IS OF BULK AT MOST 1048576: true; the input reads as it did. -/
def fnWorldNewUptoRow : OpenClaim := { program := "ythkdelepjndacaa", sum := "d1920ab6a6349ce9ab731e52a408be27580f6dbbe48d1114baeb3fcc04269eba", func := "loop.example/parquetry/laws.FnWorldNew", spec := "fnWorldNew", unfollowed := true, recurses := true, apart := false, narrowed := true }
def FnWorldNewUptoSaid : Prop := fnWorldNewUptoRow.holds Try.pinned (OpenSpec.upto fnWorldNewSpec)

end Rows
end Go.Proofs.Ythkdelepjndacaa
