/-
  No cell of these rows narrows 'for every input' (looked for: loops, veiled, ifaces, maps, wideKeys, modest, calm, conditions, laid).
  DERIVED. THE GIVEN ROWS OF THIS SEAT. 2 by the template 'for every input the law returns true; each argument reads behind the call as it read before'; 0 by the template 'total and deterministic' (their statements: YtgdeclmciflmpaaGreatTotals.lean).
  GIVEN WITH THE SEED: the statements are not yours to turn. If you find one false, say at which input.
  Laid BY PROGRAM, IN A SANDBOX (cutbox-rows.mjs): the forced cells as the released guide's own fill.sh prints them over the translation 3c2293a60098714c… (all of the seat's roots in one cut). By AI agents, Wed Nov 11 2026. No macro, syntax, notation, axiom, sorry.
-/
import Derived.Test.YtgdeclmciflmpaaGreatChecked
import GoSem.Claim
import GoSem.ClaimJoined
import GoSem.ClaimMapViews
import Derived.JoinedTies
import Derived.KernelRfl
namespace Go.Proofs.YtgdeclmciflmpaaGreat
/- THE CELL 'sum', in the pinned program and in every row, IS THE sha256 OF THE DUMP (.gsa) THAT YtgdeclmciflmpaaGreatProg.lean LOADS. Nothing in Lean hashes anything: it is a label: what it is worth is what the hold of that sum in a sandbox is worth. -/
noncomputable def Tryz.pinned : Pinned := { name := "ytgdeclmciflmpaagreat", sum := "3c2293a60098714c5f3ce45d16b55e406e30fcb3d7ce34c6bdc7c19063d98adf", checked := Tryz.checked }
namespace Rows
def none {H : Type} : Left H := { results := [], args := [] }

/-- 'laws.FnExactRunVm': WHATEVER THE INPUT: true; the input reads as it did. -/
def fnExactRunVmSpec : ChangeSpec := { name := "fnExactRunVm", fn := fun _ => fun
  | [d1, d2, d3, d4] => { results := [.lit (.bool true)], args := [d1, d2, d3, d4] }
  | _ => none }
def fnExactRunVmRow : OpenClaim := { program := "ytgdeclmciflmpaagreat", sum := "3c2293a60098714c5f3ce45d16b55e406e30fcb3d7ce34c6bdc7c19063d98adf", func := "loop.example/g00745/laws.FnExactRunVm", spec := "fnExactRunVm", unfollowed := true, recurses := true, apart := false }
def FnExactRunVmSaid : Prop := fnExactRunVmRow.holds Tryz.pinned (OpenSpec.ofChange fnExactRunVmSpec)

/-- ITS FALSE NEIGHBOUR: 'it returns false'. Refute it at one input. -/
def fnExactRunVmWrong : ChangeSpec := { name := "fnExactRunVm", fn := fun _ => fun
  | [d1, d2, d3, d4] => { results := [.lit (.bool false)], args := [d1, d2, d3, d4] }
  | _ => none }
def FnExactRunVmWrongFalsely : Prop := fnExactRunVmRow.holds Tryz.pinned (OpenSpec.ofChange fnExactRunVmWrong)

/-- 'laws.FnExactRunTo': WHATEVER THE INPUT: true; the input reads as it did. -/
def fnExactRunToSpec : ChangeSpec := { name := "fnExactRunTo", fn := fun _ => fun
  | [d1, d2, d3, d4] => { results := [.lit (.bool true)], args := [d1, d2, d3, d4] }
  | _ => none }
def fnExactRunToRow : OpenClaim := { program := "ytgdeclmciflmpaagreat", sum := "3c2293a60098714c5f3ce45d16b55e406e30fcb3d7ce34c6bdc7c19063d98adf", func := "loop.example/g00745/laws.FnExactRunTo", spec := "fnExactRunTo", unfollowed := true, recurses := true, apart := false }
def FnExactRunToSaid : Prop := fnExactRunToRow.holds Tryz.pinned (OpenSpec.ofChange fnExactRunToSpec)

/-- ITS FALSE NEIGHBOUR: 'it returns false'. Refute it at one input. -/
def fnExactRunToWrong : ChangeSpec := { name := "fnExactRunTo", fn := fun _ => fun
  | [d1, d2, d3, d4] => { results := [.lit (.bool false)], args := [d1, d2, d3, d4] }
  | _ => none }
def FnExactRunToWrongFalsely : Prop := fnExactRunToRow.holds Tryz.pinned (OpenSpec.ofChange fnExactRunToWrong)

/- THE SECOND FORM. 'bulk': how many values and letters a reading holds, each counted each time it is reached (what is shared counts as often as it is met; a slice's spare places count too). A statement '..UptoSaid' is the law's where the arguments, and the package variables that the reading takes, are together of bulk at most 1048576: NARROWER than '..Said'. Prove '..Said' where nothing that the law and all that it calls make is longer than what came in: it says more and counts as full. Else prove '..UptoSaid'. A law counts once. -/
mutual
def uptoBulk {H : Type} : DataW H → Nat
  | .lit (.string bytes) => bytes.length + 1
  | .lit _ => 1
  | .nil => 1
  | .ptr d => uptoBulk d + 1
  | .slice elems spare => uptoBulkAll elems + uptoBulkAll spare + 1
  | .agg parts => uptoBulkAll parts + 1
  | .iface _ d => uptoBulk d + 1
  | .map entries => uptoBulkEntries entries + 1
  | .held _ => 1
def uptoBulkAll {H : Type} : List (DataW H) → Nat
  | [] => 0
  | d :: r => uptoBulk d + uptoBulkAll r
def uptoBulkEntries {H : Type} : List (Lit × DataW H) → Nat
  | [] => 0
  | x :: r => uptoBulkEntry x + uptoBulkEntries r
def uptoBulkEntry {H : Type} : Lit × DataW H → Nat
  | (.string bytes, d) => bytes.length + uptoBulk d + 1
  | (_, d) => uptoBulk d + 1
 end
def uptoSmall : (H : Type) → List (DataW H) → Bool := fun _ ds => decide (uptoBulkAll ds ≤ 1048576)
def OpenSpec.upto (s : _root_.Go.ChangeSpec) : _root_.Go.OpenSpec := { _root_.Go.OpenSpec.ofChange s with cond := some uptoSmall }

/-- 'laws.FnExactRunVm', WHERE WHAT IT READS IS OF BULK AT MOST 1048576: true; the input reads as it did. -/
def fnExactRunVmUptoRow : OpenClaim := { program := "ytgdeclmciflmpaagreat", sum := "3c2293a60098714c5f3ce45d16b55e406e30fcb3d7ce34c6bdc7c19063d98adf", func := "loop.example/g00745/laws.FnExactRunVm", spec := "fnExactRunVm", unfollowed := true, recurses := true, apart := false, narrowed := true }
def FnExactRunVmUptoSaid : Prop := fnExactRunVmUptoRow.holds Tryz.pinned (OpenSpec.upto fnExactRunVmSpec)

/-- 'laws.FnExactRunTo', WHERE WHAT IT READS IS OF BULK AT MOST 1048576: true; the input reads as it did. -/
def fnExactRunToUptoRow : OpenClaim := { program := "ytgdeclmciflmpaagreat", sum := "3c2293a60098714c5f3ce45d16b55e406e30fcb3d7ce34c6bdc7c19063d98adf", func := "loop.example/g00745/laws.FnExactRunTo", spec := "fnExactRunTo", unfollowed := true, recurses := true, apart := false, narrowed := true }
def FnExactRunToUptoSaid : Prop := fnExactRunToUptoRow.holds Tryz.pinned (OpenSpec.upto fnExactRunToSpec)

end Rows
end Go.Proofs.YtgdeclmciflmpaaGreat
