/-
  No cell of these rows narrows 'for every input' (looked for: loops, veiled, ifaces, maps, wideKeys, modest, calm, conditions, laid).
  DERIVED. THE GIVEN ROWS OF THIS SEAT. 12 by the template 'for every input the law returns true; each argument reads behind the call as it read before'; 0 by the template 'total and deterministic' (their statements: YtnahfbjdicjdpaaGreatTotals.lean).
  GIVEN WITH THE SEED: the statements are not yours to turn. If you find one false, say at which input.
  Laid BY PROGRAM, IN A SANDBOX (cutbox-rows.mjs): the forced cells as the released guide's own fill.sh prints them over the translation 104622bfc54cdeb2… (all of the seat's roots in one cut). By AI agents, Wed Nov 11 2026. No macro, syntax, notation, axiom, sorry.
-/
import Derived.Test.YtnahfbjdicjdpaaGreatChecked
import GoSem.Claim
import GoSem.ClaimJoined
import GoSem.ClaimMapViews
import Derived.JoinedTies
import Derived.KernelRfl
namespace Go.Proofs.YtnahfbjdicjdpaaGreat
/- THE CELL 'sum', in the pinned program and in every row, IS THE sha256 OF THE DUMP (.gsa) THAT YtnahfbjdicjdpaaGreatProg.lean LOADS. Nothing in Lean hashes anything: it is a label: what it is worth is what the hold of that sum in a sandbox is worth. -/
noncomputable def Tryz.pinned : Pinned := { name := "ytnahfbjdicjdpaagreat", sum := "104622bfc54cdeb29c303aee44302d724599d9e0d92e2c36b50b321c24d86217", checked := Tryz.checked }
namespace Rows
def none {H : Type} : Left H := { results := [], args := [] }

/-- 'laws.FnStepFixed': WHATEVER THE INPUT: true; the input reads as it did. -/
def fnStepFixedSpec : ChangeSpec := { name := "fnStepFixed", fn := fun _ => fun
  | [d] => { results := [.lit (.bool true)], args := [d] }
  | _ => none }
def fnStepFixedRow : OpenClaim := { program := "ytnahfbjdicjdpaagreat", sum := "104622bfc54cdeb29c303aee44302d724599d9e0d92e2c36b50b321c24d86217", func := "loop.example/parquetry/laws.FnStepFixed", spec := "fnStepFixed", apart := false }
def FnStepFixedSaid : Prop := fnStepFixedRow.holds Tryz.pinned (OpenSpec.ofChange fnStepFixedSpec)

/-- ITS FALSE NEIGHBOUR: 'it returns false'. Refute it at one input. -/
def fnStepFixedWrong : ChangeSpec := { name := "fnStepFixed", fn := fun _ => fun
  | [d] => { results := [.lit (.bool false)], args := [d] }
  | _ => none }
def FnStepFixedWrongFalsely : Prop := fnStepFixedRow.holds Tryz.pinned (OpenSpec.ofChange fnStepFixedWrong)

/-- 'laws.FnStepSleep': WHATEVER THE INPUT: true; the input reads as it did. -/
def fnStepSleepSpec : ChangeSpec := { name := "fnStepSleep", fn := fun _ => fun
  | [d] => { results := [.lit (.bool true)], args := [d] }
  | _ => none }
def fnStepSleepRow : OpenClaim := { program := "ytnahfbjdicjdpaagreat", sum := "104622bfc54cdeb29c303aee44302d724599d9e0d92e2c36b50b321c24d86217", func := "loop.example/parquetry/laws.FnStepSleep", spec := "fnStepSleep", apart := false }
def FnStepSleepSaid : Prop := fnStepSleepRow.holds Tryz.pinned (OpenSpec.ofChange fnStepSleepSpec)

/-- ITS FALSE NEIGHBOUR: 'it returns false'. Refute it at one input. -/
def fnStepSleepWrong : ChangeSpec := { name := "fnStepSleep", fn := fun _ => fun
  | [d] => { results := [.lit (.bool false)], args := [d] }
  | _ => none }
def FnStepSleepWrongFalsely : Prop := fnStepSleepRow.holds Tryz.pinned (OpenSpec.ofChange fnStepSleepWrong)

/-- 'laws.FnStepAlone': WHATEVER THE INPUT: true; the input reads as it did. -/
def fnStepAloneSpec : ChangeSpec := { name := "fnStepAlone", fn := fun _ => fun
  | [d] => { results := [.lit (.bool true)], args := [d] }
  | _ => none }
def fnStepAloneRow : OpenClaim := { program := "ytnahfbjdicjdpaagreat", sum := "104622bfc54cdeb29c303aee44302d724599d9e0d92e2c36b50b321c24d86217", func := "loop.example/parquetry/laws.FnStepAlone", spec := "fnStepAlone", apart := false }
def FnStepAloneSaid : Prop := fnStepAloneRow.holds Tryz.pinned (OpenSpec.ofChange fnStepAloneSpec)

/-- ITS FALSE NEIGHBOUR: 'it returns false'. Refute it at one input. -/
def fnStepAloneWrong : ChangeSpec := { name := "fnStepAlone", fn := fun _ => fun
  | [d] => { results := [.lit (.bool false)], args := [d] }
  | _ => none }
def FnStepAloneWrongFalsely : Prop := fnStepAloneRow.holds Tryz.pinned (OpenSpec.ofChange fnStepAloneWrong)

/-- 'laws.FnStepRest': WHATEVER THE INPUT: true; the input reads as it did. -/
def fnStepRestSpec : ChangeSpec := { name := "fnStepRest", fn := fun _ => fun
  | [d] => { results := [.lit (.bool true)], args := [d] }
  | _ => none }
def fnStepRestRow : OpenClaim := { program := "ytnahfbjdicjdpaagreat", sum := "104622bfc54cdeb29c303aee44302d724599d9e0d92e2c36b50b321c24d86217", func := "loop.example/parquetry/laws.FnStepRest", spec := "fnStepRest", apart := false }
def FnStepRestSaid : Prop := fnStepRestRow.holds Tryz.pinned (OpenSpec.ofChange fnStepRestSpec)

/-- ITS FALSE NEIGHBOUR: 'it returns false'. Refute it at one input. -/
def fnStepRestWrong : ChangeSpec := { name := "fnStepRest", fn := fun _ => fun
  | [d] => { results := [.lit (.bool false)], args := [d] }
  | _ => none }
def FnStepRestWrongFalsely : Prop := fnStepRestRow.holds Tryz.pinned (OpenSpec.ofChange fnStepRestWrong)

/-- 'laws.FnSteps': WHATEVER THE INPUT: true; the input reads as it did. -/
def fnStepsSpec : ChangeSpec := { name := "fnSteps", fn := fun _ => fun
  | [d] => { results := [.lit (.bool true)], args := [d] }
  | _ => none }
def fnStepsRow : OpenClaim := { program := "ytnahfbjdicjdpaagreat", sum := "104622bfc54cdeb29c303aee44302d724599d9e0d92e2c36b50b321c24d86217", func := "loop.example/parquetry/laws.FnSteps", spec := "fnSteps", apart := false }
def FnStepsSaid : Prop := fnStepsRow.holds Tryz.pinned (OpenSpec.ofChange fnStepsSpec)

/-- ITS FALSE NEIGHBOUR: 'it returns false'. Refute it at one input. -/
def fnStepsWrong : ChangeSpec := { name := "fnSteps", fn := fun _ => fun
  | [d] => { results := [.lit (.bool false)], args := [d] }
  | _ => none }
def FnStepsWrongFalsely : Prop := fnStepsRow.holds Tryz.pinned (OpenSpec.ofChange fnStepsWrong)

/-- 'laws.FnStill': WHATEVER THE INPUT: true; the input reads as it did. -/
def fnStillSpec : ChangeSpec := { name := "fnStill", fn := fun _ => fun
  | [d] => { results := [.lit (.bool true)], args := [d] }
  | _ => none }
def fnStillRow : OpenClaim := { program := "ytnahfbjdicjdpaagreat", sum := "104622bfc54cdeb29c303aee44302d724599d9e0d92e2c36b50b321c24d86217", func := "loop.example/parquetry/laws.FnStill", spec := "fnStill", unfollowed := true, recurses := true, apart := false }
def FnStillSaid : Prop := fnStillRow.holds Tryz.pinned (OpenSpec.ofChange fnStillSpec)

/-- ITS FALSE NEIGHBOUR: 'it returns false'. Refute it at one input. -/
def fnStillWrong : ChangeSpec := { name := "fnStill", fn := fun _ => fun
  | [d] => { results := [.lit (.bool false)], args := [d] }
  | _ => none }
def FnStillWrongFalsely : Prop := fnStillRow.holds Tryz.pinned (OpenSpec.ofChange fnStillWrong)

/-- 'laws.FnWorldStep': WHATEVER THE INPUT: true; the input reads as it did. -/
def fnWorldStepSpec : ChangeSpec := { name := "fnWorldStep", fn := fun _ => fun
  | [d] => { results := [.lit (.bool true)], args := [d] }
  | _ => none }
def fnWorldStepRow : OpenClaim := { program := "ytnahfbjdicjdpaagreat", sum := "104622bfc54cdeb29c303aee44302d724599d9e0d92e2c36b50b321c24d86217", func := "loop.example/parquetry/laws.FnWorldStep", spec := "fnWorldStep", unfollowed := true, recurses := true, apart := false }
def FnWorldStepSaid : Prop := fnWorldStepRow.holds Tryz.pinned (OpenSpec.ofChange fnWorldStepSpec)

/-- ITS FALSE NEIGHBOUR: 'it returns false'. Refute it at one input. -/
def fnWorldStepWrong : ChangeSpec := { name := "fnWorldStep", fn := fun _ => fun
  | [d] => { results := [.lit (.bool false)], args := [d] }
  | _ => none }
def FnWorldStepWrongFalsely : Prop := fnWorldStepRow.holds Tryz.pinned (OpenSpec.ofChange fnWorldStepWrong)

/-- 'laws.FnWorldGone': WHATEVER THE INPUT: true; the input reads as it did. -/
def fnWorldGoneSpec : ChangeSpec := { name := "fnWorldGone", fn := fun _ => fun
  | [d] => { results := [.lit (.bool true)], args := [d] }
  | _ => none }
def fnWorldGoneRow : OpenClaim := { program := "ytnahfbjdicjdpaagreat", sum := "104622bfc54cdeb29c303aee44302d724599d9e0d92e2c36b50b321c24d86217", func := "loop.example/parquetry/laws.FnWorldGone", spec := "fnWorldGone", unfollowed := true, recurses := true, apart := false }
def FnWorldGoneSaid : Prop := fnWorldGoneRow.holds Tryz.pinned (OpenSpec.ofChange fnWorldGoneSpec)

/-- ITS FALSE NEIGHBOUR: 'it returns false'. Refute it at one input. -/
def fnWorldGoneWrong : ChangeSpec := { name := "fnWorldGone", fn := fun _ => fun
  | [d] => { results := [.lit (.bool false)], args := [d] }
  | _ => none }
def FnWorldGoneWrongFalsely : Prop := fnWorldGoneRow.holds Tryz.pinned (OpenSpec.ofChange fnWorldGoneWrong)

/-- 'laws.FnWorldOrder': WHATEVER THE INPUT: true; the input reads as it did. -/
def fnWorldOrderSpec : ChangeSpec := { name := "fnWorldOrder", fn := fun _ => fun
  | [d] => { results := [.lit (.bool true)], args := [d] }
  | _ => none }
def fnWorldOrderRow : OpenClaim := { program := "ytnahfbjdicjdpaagreat", sum := "104622bfc54cdeb29c303aee44302d724599d9e0d92e2c36b50b321c24d86217", func := "loop.example/parquetry/laws.FnWorldOrder", spec := "fnWorldOrder", inPlace := ["slices.overlaps[loop.example/parquetry/impl.Body]"], unfollowed := true, recurses := true, apart := false }
def FnWorldOrderSaid : Prop := fnWorldOrderRow.holds Tryz.pinned (OpenSpec.ofChange fnWorldOrderSpec)

/-- ITS FALSE NEIGHBOUR: 'it returns false'. Refute it at one input. -/
def fnWorldOrderWrong : ChangeSpec := { name := "fnWorldOrder", fn := fun _ => fun
  | [d] => { results := [.lit (.bool false)], args := [d] }
  | _ => none }
def FnWorldOrderWrongFalsely : Prop := fnWorldOrderRow.holds Tryz.pinned (OpenSpec.ofChange fnWorldOrderWrong)

/-- 'laws.FnWorldPut': WHATEVER THE INPUT: true; the input reads as it did. -/
def fnWorldPutSpec : ChangeSpec := { name := "fnWorldPut", fn := fun _ => fun
  | [d] => { results := [.lit (.bool true)], args := [d] }
  | _ => none }
def fnWorldPutRow : OpenClaim := { program := "ytnahfbjdicjdpaagreat", sum := "104622bfc54cdeb29c303aee44302d724599d9e0d92e2c36b50b321c24d86217", func := "loop.example/parquetry/laws.FnWorldPut", spec := "fnWorldPut", inPlace := ["slices.overlaps[loop.example/parquetry/impl.Body]"], unfollowed := true, recurses := true, apart := false }
def FnWorldPutSaid : Prop := fnWorldPutRow.holds Tryz.pinned (OpenSpec.ofChange fnWorldPutSpec)

/-- ITS FALSE NEIGHBOUR: 'it returns false'. Refute it at one input. -/
def fnWorldPutWrong : ChangeSpec := { name := "fnWorldPut", fn := fun _ => fun
  | [d] => { results := [.lit (.bool false)], args := [d] }
  | _ => none }
def FnWorldPutWrongFalsely : Prop := fnWorldPutRow.holds Tryz.pinned (OpenSpec.ofChange fnWorldPutWrong)

/-- 'laws.FnStepGroups': WHATEVER THE INPUT: true; the input reads as it did. -/
def fnStepGroupsSpec : ChangeSpec := { name := "fnStepGroups", fn := fun _ => fun
  | [d] => { results := [.lit (.bool true)], args := [d] }
  | _ => none }
def fnStepGroupsRow : OpenClaim := { program := "ytnahfbjdicjdpaagreat", sum := "104622bfc54cdeb29c303aee44302d724599d9e0d92e2c36b50b321c24d86217", func := "loop.example/parquetry/laws.FnStepGroups", spec := "fnStepGroups", apart := false }
def FnStepGroupsSaid : Prop := fnStepGroupsRow.holds Tryz.pinned (OpenSpec.ofChange fnStepGroupsSpec)

/-- ITS FALSE NEIGHBOUR: 'it returns false'. Refute it at one input. -/
def fnStepGroupsWrong : ChangeSpec := { name := "fnStepGroups", fn := fun _ => fun
  | [d] => { results := [.lit (.bool false)], args := [d] }
  | _ => none }
def FnStepGroupsWrongFalsely : Prop := fnStepGroupsRow.holds Tryz.pinned (OpenSpec.ofChange fnStepGroupsWrong)

/-- 'laws.FnWorldFar': WHATEVER THE INPUT: true; the input reads as it did. -/
def fnWorldFarSpec : ChangeSpec := { name := "fnWorldFar", fn := fun _ => fun
  | [d] => { results := [.lit (.bool true)], args := [d] }
  | _ => none }
def fnWorldFarRow : OpenClaim := { program := "ytnahfbjdicjdpaagreat", sum := "104622bfc54cdeb29c303aee44302d724599d9e0d92e2c36b50b321c24d86217", func := "loop.example/parquetry/laws.FnWorldFar", spec := "fnWorldFar", inPlace := ["slices.overlaps[loop.example/parquetry/impl.Body]"], unfollowed := true, recurses := true, apart := false }
def FnWorldFarSaid : Prop := fnWorldFarRow.holds Tryz.pinned (OpenSpec.ofChange fnWorldFarSpec)

/-- ITS FALSE NEIGHBOUR: 'it returns false'. Refute it at one input. -/
def fnWorldFarWrong : ChangeSpec := { name := "fnWorldFar", fn := fun _ => fun
  | [d] => { results := [.lit (.bool false)], args := [d] }
  | _ => none }
def FnWorldFarWrongFalsely : Prop := fnWorldFarRow.holds Tryz.pinned (OpenSpec.ofChange fnWorldFarWrong)

/- THE SECOND FORM. 'bulk': how many values and letters a reading holds, each counted each time it is reached (what is shared counts as often as it is met; a slice's spare places count too). A statement '..UptoSaid' is the law's where the arguments, and the package variables that the reading takes, are together of bulk at most 1048576: NARROWER than '..Said'. Prove '..Said' where nothing that the law and all that it calls make is longer than what came in: it says more and counts as full. Else prove '..UptoSaid'. A law counts once. -/
mutual
def uptoBulk {H : Type} : DataW H → Nat
  | .lit (.string bytes) => bytes.length + 1
  | .lit _ => 1
  | .nil => 1
  | .ptr d => uptoBulk d + 1
  | .slice elems spare => uptoBulkAll elems + uptoBulkAll spare + 1
  | .agg parts => uptoBulkAll parts + 1
  | .iface _ d => uptoBulk d + 1
  | .map entries => uptoBulkEntries entries + 1
  | .held _ => 1
def uptoBulkAll {H : Type} : List (DataW H) → Nat
  | [] => 0
  | d :: r => uptoBulk d + uptoBulkAll r
def uptoBulkEntries {H : Type} : List (Lit × DataW H) → Nat
  | [] => 0
  | x :: r => uptoBulkEntry x + uptoBulkEntries r
def uptoBulkEntry {H : Type} : Lit × DataW H → Nat
  | (.string bytes, d) => bytes.length + uptoBulk d + 1
  | (_, d) => uptoBulk d + 1
 end
def uptoSmall : (H : Type) → List (DataW H) → Bool := fun _ ds => decide (uptoBulkAll ds ≤ 1048576)
def OpenSpec.upto (s : _root_.Go.ChangeSpec) : _root_.Go.OpenSpec := { _root_.Go.OpenSpec.ofChange s with cond := some uptoSmall }

/-- 'laws.FnStepFixed', WHERE WHAT IT READS IS OF BULK AT MOST 1048576: true; the input reads as it did. -/
def fnStepFixedUptoRow : OpenClaim := { program := "ytnahfbjdicjdpaagreat", sum := "104622bfc54cdeb29c303aee44302d724599d9e0d92e2c36b50b321c24d86217", func := "loop.example/parquetry/laws.FnStepFixed", spec := "fnStepFixed", apart := false, narrowed := true }
def FnStepFixedUptoSaid : Prop := fnStepFixedUptoRow.holds Tryz.pinned (OpenSpec.upto fnStepFixedSpec)

/-- 'laws.FnStepSleep', WHERE WHAT IT READS IS OF BULK AT MOST 1048576: true; the input reads as it did. -/
def fnStepSleepUptoRow : OpenClaim := { program := "ytnahfbjdicjdpaagreat", sum := "104622bfc54cdeb29c303aee44302d724599d9e0d92e2c36b50b321c24d86217", func := "loop.example/parquetry/laws.FnStepSleep", spec := "fnStepSleep", apart := false, narrowed := true }
def FnStepSleepUptoSaid : Prop := fnStepSleepUptoRow.holds Tryz.pinned (OpenSpec.upto fnStepSleepSpec)

/-- 'laws.FnStepAlone', WHERE WHAT IT READS IS OF BULK AT MOST 1048576: true; the input reads as it did. -/
def fnStepAloneUptoRow : OpenClaim := { program := "ytnahfbjdicjdpaagreat", sum := "104622bfc54cdeb29c303aee44302d724599d9e0d92e2c36b50b321c24d86217", func := "loop.example/parquetry/laws.FnStepAlone", spec := "fnStepAlone", apart := false, narrowed := true }
def FnStepAloneUptoSaid : Prop := fnStepAloneUptoRow.holds Tryz.pinned (OpenSpec.upto fnStepAloneSpec)

/-- 'laws.FnStepRest', WHERE WHAT IT READS IS OF BULK AT MOST 1048576: true; the input reads as it did. -/
def fnStepRestUptoRow : OpenClaim := { program := "ytnahfbjdicjdpaagreat", sum := "104622bfc54cdeb29c303aee44302d724599d9e0d92e2c36b50b321c24d86217", func := "loop.example/parquetry/laws.FnStepRest", spec := "fnStepRest", apart := false, narrowed := true }
def FnStepRestUptoSaid : Prop := fnStepRestUptoRow.holds Tryz.pinned (OpenSpec.upto fnStepRestSpec)

/-- 'laws.FnSteps', WHERE WHAT IT READS IS OF BULK AT MOST 1048576: true; the input reads as it did. -/
def fnStepsUptoRow : OpenClaim := { program := "ytnahfbjdicjdpaagreat", sum := "104622bfc54cdeb29c303aee44302d724599d9e0d92e2c36b50b321c24d86217", func := "loop.example/parquetry/laws.FnSteps", spec := "fnSteps", apart := false, narrowed := true }
def FnStepsUptoSaid : Prop := fnStepsUptoRow.holds Tryz.pinned (OpenSpec.upto fnStepsSpec)

/-- 'laws.FnStill', WHERE WHAT IT READS IS OF BULK AT MOST 1048576: true; the input reads as it did. -/
def fnStillUptoRow : OpenClaim := { program := "ytnahfbjdicjdpaagreat", sum := "104622bfc54cdeb29c303aee44302d724599d9e0d92e2c36b50b321c24d86217", func := "loop.example/parquetry/laws.FnStill", spec := "fnStill", unfollowed := true, recurses := true, apart := false, narrowed := true }
def FnStillUptoSaid : Prop := fnStillUptoRow.holds Tryz.pinned (OpenSpec.upto fnStillSpec)

/-- 'laws.FnWorldStep', WHERE WHAT IT READS IS OF BULK AT MOST 1048576: true; the input reads as it did. -/
def fnWorldStepUptoRow : OpenClaim := { program := "ytnahfbjdicjdpaagreat", sum := "104622bfc54cdeb29c303aee44302d724599d9e0d92e2c36b50b321c24d86217", func := "loop.example/parquetry/laws.FnWorldStep", spec := "fnWorldStep", unfollowed := true, recurses := true, apart := false, narrowed := true }
def FnWorldStepUptoSaid : Prop := fnWorldStepUptoRow.holds Tryz.pinned (OpenSpec.upto fnWorldStepSpec)

/-- 'laws.FnWorldGone', WHERE WHAT IT READS IS OF BULK AT MOST 1048576: true; the input reads as it did. -/
def fnWorldGoneUptoRow : OpenClaim := { program := "ytnahfbjdicjdpaagreat", sum := "104622bfc54cdeb29c303aee44302d724599d9e0d92e2c36b50b321c24d86217", func := "loop.example/parquetry/laws.FnWorldGone", spec := "fnWorldGone", unfollowed := true, recurses := true, apart := false, narrowed := true }
def FnWorldGoneUptoSaid : Prop := fnWorldGoneUptoRow.holds Tryz.pinned (OpenSpec.upto fnWorldGoneSpec)

/-- 'laws.FnWorldOrder', WHERE WHAT IT READS IS OF BULK AT MOST 1048576: true; the input reads as it did. -/
def fnWorldOrderUptoRow : OpenClaim := { program := "ytnahfbjdicjdpaagreat", sum := "104622bfc54cdeb29c303aee44302d724599d9e0d92e2c36b50b321c24d86217", func := "loop.example/parquetry/laws.FnWorldOrder", spec := "fnWorldOrder", inPlace := ["slices.overlaps[loop.example/parquetry/impl.Body]"], unfollowed := true, recurses := true, apart := false, narrowed := true }
def FnWorldOrderUptoSaid : Prop := fnWorldOrderUptoRow.holds Tryz.pinned (OpenSpec.upto fnWorldOrderSpec)

/-- 'laws.FnWorldPut', WHERE WHAT IT READS IS OF BULK AT MOST 1048576: true; the input reads as it did. -/
def fnWorldPutUptoRow : OpenClaim := { program := "ytnahfbjdicjdpaagreat", sum := "104622bfc54cdeb29c303aee44302d724599d9e0d92e2c36b50b321c24d86217", func := "loop.example/parquetry/laws.FnWorldPut", spec := "fnWorldPut", inPlace := ["slices.overlaps[loop.example/parquetry/impl.Body]"], unfollowed := true, recurses := true, apart := false, narrowed := true }
def FnWorldPutUptoSaid : Prop := fnWorldPutUptoRow.holds Tryz.pinned (OpenSpec.upto fnWorldPutSpec)

/-- 'laws.FnStepGroups', WHERE WHAT IT READS IS OF BULK AT MOST 1048576: true; the input reads as it did. -/
def fnStepGroupsUptoRow : OpenClaim := { program := "ytnahfbjdicjdpaagreat", sum := "104622bfc54cdeb29c303aee44302d724599d9e0d92e2c36b50b321c24d86217", func := "loop.example/parquetry/laws.FnStepGroups", spec := "fnStepGroups", apart := false, narrowed := true }
def FnStepGroupsUptoSaid : Prop := fnStepGroupsUptoRow.holds Tryz.pinned (OpenSpec.upto fnStepGroupsSpec)

/-- 'laws.FnWorldFar', WHERE WHAT IT READS IS OF BULK AT MOST 1048576: true; the input reads as it did. -/
def fnWorldFarUptoRow : OpenClaim := { program := "ytnahfbjdicjdpaagreat", sum := "104622bfc54cdeb29c303aee44302d724599d9e0d92e2c36b50b321c24d86217", func := "loop.example/parquetry/laws.FnWorldFar", spec := "fnWorldFar", inPlace := ["slices.overlaps[loop.example/parquetry/impl.Body]"], unfollowed := true, recurses := true, apart := false, narrowed := true }
def FnWorldFarUptoSaid : Prop := fnWorldFarUptoRow.holds Tryz.pinned (OpenSpec.upto fnWorldFarSpec)

end Rows
end Go.Proofs.YtnahfbjdicjdpaaGreat
