/-
  No cell of these rows narrows 'for every input' (looked for: loops, veiled, ifaces, maps, wideKeys, modest, calm, conditions, laid).
  DERIVED. THE GIVEN ROWS OF THIS SEAT. 6 by the template 'for every input the law returns true; each argument reads behind the call as it read before'; 0 by the template 'total and deterministic' (their statements: YtmnkgcjbckamnaaGreatTotals.lean).
  GIVEN WITH THE SEED: the statements are not yours to turn. If you find one false, say at which input.
  Laid BY PROGRAM, IN A SANDBOX (cutbox-rows.mjs): the forced cells as the released guide's own fill.sh prints them over the translation e5e7030efa467a64… (all of the seat's roots in one cut). By AI agents, Wed Nov 11 2026. No macro, syntax, notation, axiom, sorry.
-/
import Derived.Test.YtmnkgcjbckamnaaGreatChecked
import GoSem.Claim
import GoSem.ClaimJoined
import GoSem.ClaimMapViews
import Derived.JoinedTies
import Derived.KernelRfl
namespace Go.Proofs.YtmnkgcjbckamnaaGreat
/- THE CELL 'sum', in the pinned program and in every row, IS THE sha256 OF THE DUMP (.gsa) THAT YtmnkgcjbckamnaaGreatProg.lean LOADS. Nothing in Lean hashes anything: it is a label: what it is worth is what the hold of that sum in a sandbox is worth. -/
noncomputable def Tryz.pinned : Pinned := { name := "ytmnkgcjbckamnaagreat", sum := "e5e7030efa467a64450fcf4a5091be6ebe370024cc493b963443d36840451e48", checked := Tryz.checked }
namespace Rows
def none {H : Type} : Left H := { results := [], args := [] }

/-- 'laws.FnExactDropDead': WHATEVER THE INPUT: true; the input reads as it did. -/
def fnExactDropDeadSpec : ChangeSpec := { name := "fnExactDropDead", fn := fun _ => fun
  | [d1, d2] => { results := [.lit (.bool true)], args := [d1, d2] }
  | _ => none }
def fnExactDropDeadRow : OpenClaim := { program := "ytmnkgcjbckamnaagreat", sum := "e5e7030efa467a64450fcf4a5091be6ebe370024cc493b963443d36840451e48", func := "loop.example/g00745/laws.FnExactDropDead", spec := "fnExactDropDead", unfollowed := true, recurses := true, apart := false }
def FnExactDropDeadSaid : Prop := fnExactDropDeadRow.holds Tryz.pinned (OpenSpec.ofChange fnExactDropDeadSpec)

/-- ITS FALSE NEIGHBOUR: 'it returns false'. Refute it at one input. -/
def fnExactDropDeadWrong : ChangeSpec := { name := "fnExactDropDead", fn := fun _ => fun
  | [d1, d2] => { results := [.lit (.bool false)], args := [d1, d2] }
  | _ => none }
def FnExactDropDeadWrongFalsely : Prop := fnExactDropDeadRow.holds Tryz.pinned (OpenSpec.ofChange fnExactDropDeadWrong)

/-- 'laws.FnExactTidyImage': WHATEVER THE INPUT: true; the input reads as it did. -/
def fnExactTidyImageSpec : ChangeSpec := { name := "fnExactTidyImage", fn := fun _ => fun
  | [d] => { results := [.lit (.bool true)], args := [d] }
  | _ => none }
def fnExactTidyImageRow : OpenClaim := { program := "ytmnkgcjbckamnaagreat", sum := "e5e7030efa467a64450fcf4a5091be6ebe370024cc493b963443d36840451e48", func := "loop.example/g00745/laws.FnExactTidyImage", spec := "fnExactTidyImage", unfollowed := true, recurses := true, apart := false }
def FnExactTidyImageSaid : Prop := fnExactTidyImageRow.holds Tryz.pinned (OpenSpec.ofChange fnExactTidyImageSpec)

/-- ITS FALSE NEIGHBOUR: 'it returns false'. Refute it at one input. -/
def fnExactTidyImageWrong : ChangeSpec := { name := "fnExactTidyImage", fn := fun _ => fun
  | [d] => { results := [.lit (.bool false)], args := [d] }
  | _ => none }
def FnExactTidyImageWrongFalsely : Prop := fnExactTidyImageRow.holds Tryz.pinned (OpenSpec.ofChange fnExactTidyImageWrong)

/-- 'laws.FnExactSearchUp': WHATEVER THE INPUT: true; the input reads as it did. -/
def fnExactSearchUpSpec : ChangeSpec := { name := "fnExactSearchUp", fn := fun _ => fun
  | [d1, d2] => { results := [.lit (.bool true)], args := [d1, d2] }
  | _ => none }
def fnExactSearchUpRow : OpenClaim := { program := "ytmnkgcjbckamnaagreat", sum := "e5e7030efa467a64450fcf4a5091be6ebe370024cc493b963443d36840451e48", func := "loop.example/g00745/laws.FnExactSearchUp", spec := "fnExactSearchUp", unfollowed := true, recurses := true, apart := false }
def FnExactSearchUpSaid : Prop := fnExactSearchUpRow.holds Tryz.pinned (OpenSpec.ofChange fnExactSearchUpSpec)

/-- ITS FALSE NEIGHBOUR: 'it returns false'. Refute it at one input. -/
def fnExactSearchUpWrong : ChangeSpec := { name := "fnExactSearchUp", fn := fun _ => fun
  | [d1, d2] => { results := [.lit (.bool false)], args := [d1, d2] }
  | _ => none }
def FnExactSearchUpWrongFalsely : Prop := fnExactSearchUpRow.holds Tryz.pinned (OpenSpec.ofChange fnExactSearchUpWrong)

/-- 'laws.FnExactPadsUp': WHATEVER THE INPUT: true; the input reads as it did. -/
def fnExactPadsUpSpec : ChangeSpec := { name := "fnExactPadsUp", fn := fun _ => fun
  | [d1, d2] => { results := [.lit (.bool true)], args := [d1, d2] }
  | _ => none }
def fnExactPadsUpRow : OpenClaim := { program := "ytmnkgcjbckamnaagreat", sum := "e5e7030efa467a64450fcf4a5091be6ebe370024cc493b963443d36840451e48", func := "loop.example/g00745/laws.FnExactPadsUp", spec := "fnExactPadsUp", unfollowed := true, recurses := true, apart := false }
def FnExactPadsUpSaid : Prop := fnExactPadsUpRow.holds Tryz.pinned (OpenSpec.ofChange fnExactPadsUpSpec)

/-- ITS FALSE NEIGHBOUR: 'it returns false'. Refute it at one input. -/
def fnExactPadsUpWrong : ChangeSpec := { name := "fnExactPadsUp", fn := fun _ => fun
  | [d1, d2] => { results := [.lit (.bool false)], args := [d1, d2] }
  | _ => none }
def FnExactPadsUpWrongFalsely : Prop := fnExactPadsUpRow.holds Tryz.pinned (OpenSpec.ofChange fnExactPadsUpWrong)

/-- 'laws.FnExactRunVm': WHATEVER THE INPUT: true; the input reads as it did. -/
def fnExactRunVmSpec : ChangeSpec := { name := "fnExactRunVm", fn := fun _ => fun
  | [d1, d2, d3, d4] => { results := [.lit (.bool true)], args := [d1, d2, d3, d4] }
  | _ => none }
def fnExactRunVmRow : OpenClaim := { program := "ytmnkgcjbckamnaagreat", sum := "e5e7030efa467a64450fcf4a5091be6ebe370024cc493b963443d36840451e48", func := "loop.example/g00745/laws.FnExactRunVm", spec := "fnExactRunVm", unfollowed := true, recurses := true, apart := false }
def FnExactRunVmSaid : Prop := fnExactRunVmRow.holds Tryz.pinned (OpenSpec.ofChange fnExactRunVmSpec)

/-- ITS FALSE NEIGHBOUR: 'it returns false'. Refute it at one input. -/
def fnExactRunVmWrong : ChangeSpec := { name := "fnExactRunVm", fn := fun _ => fun
  | [d1, d2, d3, d4] => { results := [.lit (.bool false)], args := [d1, d2, d3, d4] }
  | _ => none }
def FnExactRunVmWrongFalsely : Prop := fnExactRunVmRow.holds Tryz.pinned (OpenSpec.ofChange fnExactRunVmWrong)

/-- 'laws.FnExactRunTo': WHATEVER THE INPUT: true; the input reads as it did. -/
def fnExactRunToSpec : ChangeSpec := { name := "fnExactRunTo", fn := fun _ => fun
  | [d1, d2, d3, d4] => { results := [.lit (.bool true)], args := [d1, d2, d3, d4] }
  | _ => none }
def fnExactRunToRow : OpenClaim := { program := "ytmnkgcjbckamnaagreat", sum := "e5e7030efa467a64450fcf4a5091be6ebe370024cc493b963443d36840451e48", func := "loop.example/g00745/laws.FnExactRunTo", spec := "fnExactRunTo", unfollowed := true, recurses := true, apart := false }
def FnExactRunToSaid : Prop := fnExactRunToRow.holds Tryz.pinned (OpenSpec.ofChange fnExactRunToSpec)

/-- ITS FALSE NEIGHBOUR: 'it returns false'. Refute it at one input. -/
def fnExactRunToWrong : ChangeSpec := { name := "fnExactRunTo", fn := fun _ => fun
  | [d1, d2, d3, d4] => { results := [.lit (.bool false)], args := [d1, d2, d3, d4] }
  | _ => none }
def FnExactRunToWrongFalsely : Prop := fnExactRunToRow.holds Tryz.pinned (OpenSpec.ofChange fnExactRunToWrong)

/- THE SECOND FORM. 'bulk': how many values and letters a reading holds, each counted each time it is reached (what is shared counts as often as it is met; a slice's spare places count too). A statement '..UptoSaid' is the law's where the arguments, and the package variables that the reading takes, are together of bulk at most 1048576: NARROWER than '..Said'. Prove '..Said' where nothing that the law and all that it calls make is longer than what came in: it says more and counts as full. Else prove '..UptoSaid'. A law counts once. -/
mutual
def uptoBulk {H : Type} : DataW H → Nat
  | .lit (.string bytes) => bytes.length + 1
  | .lit _ => 1
  | .nil => 1
  | .ptr d => uptoBulk d + 1
  | .slice elems spare => uptoBulkAll elems + uptoBulkAll spare + 1
  | .agg parts => uptoBulkAll parts + 1
  | .iface _ d => uptoBulk d + 1
  | .map entries => uptoBulkEntries entries + 1
  | .held _ => 1
def uptoBulkAll {H : Type} : List (DataW H) → Nat
  | [] => 0
  | d :: r => uptoBulk d + uptoBulkAll r
def uptoBulkEntries {H : Type} : List (Lit × DataW H) → Nat
  | [] => 0
  | x :: r => uptoBulkEntry x + uptoBulkEntries r
def uptoBulkEntry {H : Type} : Lit × DataW H → Nat
  | (.string bytes, d) => bytes.length + uptoBulk d + 1
  | (_, d) => uptoBulk d + 1
 end
def uptoSmall : (H : Type) → List (DataW H) → Bool := fun _ ds => decide (uptoBulkAll ds ≤ 1048576)
def OpenSpec.upto (s : _root_.Go.ChangeSpec) : _root_.Go.OpenSpec := { _root_.Go.OpenSpec.ofChange s with cond := some uptoSmall }

/-- 'laws.FnExactDropDead', WHERE WHAT IT READS IS OF BULK AT MOST 1048576: true; the input reads as it did. -/
def fnExactDropDeadUptoRow : OpenClaim := { program := "ytmnkgcjbckamnaagreat", sum := "e5e7030efa467a64450fcf4a5091be6ebe370024cc493b963443d36840451e48", func := "loop.example/g00745/laws.FnExactDropDead", spec := "fnExactDropDead", unfollowed := true, recurses := true, apart := false, narrowed := true }
def FnExactDropDeadUptoSaid : Prop := fnExactDropDeadUptoRow.holds Tryz.pinned (OpenSpec.upto fnExactDropDeadSpec)

/-- 'laws.FnExactTidyImage', WHERE WHAT IT READS IS OF BULK AT MOST 1048576: true; the input reads as it did. -/
def fnExactTidyImageUptoRow : OpenClaim := { program := "ytmnkgcjbckamnaagreat", sum := "e5e7030efa467a64450fcf4a5091be6ebe370024cc493b963443d36840451e48", func := "loop.example/g00745/laws.FnExactTidyImage", spec := "fnExactTidyImage", unfollowed := true, recurses := true, apart := false, narrowed := true }
def FnExactTidyImageUptoSaid : Prop := fnExactTidyImageUptoRow.holds Tryz.pinned (OpenSpec.upto fnExactTidyImageSpec)

/-- 'laws.FnExactSearchUp', WHERE WHAT IT READS IS OF BULK AT MOST 1048576: true; the input reads as it did. -/
def fnExactSearchUpUptoRow : OpenClaim := { program := "ytmnkgcjbckamnaagreat", sum := "e5e7030efa467a64450fcf4a5091be6ebe370024cc493b963443d36840451e48", func := "loop.example/g00745/laws.FnExactSearchUp", spec := "fnExactSearchUp", unfollowed := true, recurses := true, apart := false, narrowed := true }
def FnExactSearchUpUptoSaid : Prop := fnExactSearchUpUptoRow.holds Tryz.pinned (OpenSpec.upto fnExactSearchUpSpec)

/-- 'laws.FnExactPadsUp', WHERE WHAT IT READS IS OF BULK AT MOST 1048576: true; the input reads as it did. -/
def fnExactPadsUpUptoRow : OpenClaim := { program := "ytmnkgcjbckamnaagreat", sum := "e5e7030efa467a64450fcf4a5091be6ebe370024cc493b963443d36840451e48", func := "loop.example/g00745/laws.FnExactPadsUp", spec := "fnExactPadsUp", unfollowed := true, recurses := true, apart := false, narrowed := true }
def FnExactPadsUpUptoSaid : Prop := fnExactPadsUpUptoRow.holds Tryz.pinned (OpenSpec.upto fnExactPadsUpSpec)

/-- 'laws.FnExactRunVm', WHERE WHAT IT READS IS OF BULK AT MOST 1048576: true; the input reads as it did. -/
def fnExactRunVmUptoRow : OpenClaim := { program := "ytmnkgcjbckamnaagreat", sum := "e5e7030efa467a64450fcf4a5091be6ebe370024cc493b963443d36840451e48", func := "loop.example/g00745/laws.FnExactRunVm", spec := "fnExactRunVm", unfollowed := true, recurses := true, apart := false, narrowed := true }
def FnExactRunVmUptoSaid : Prop := fnExactRunVmUptoRow.holds Tryz.pinned (OpenSpec.upto fnExactRunVmSpec)

/-- 'laws.FnExactRunTo', WHERE WHAT IT READS IS OF BULK AT MOST 1048576: true; the input reads as it did. -/
def fnExactRunToUptoRow : OpenClaim := { program := "ytmnkgcjbckamnaagreat", sum := "e5e7030efa467a64450fcf4a5091be6ebe370024cc493b963443d36840451e48", func := "loop.example/g00745/laws.FnExactRunTo", spec := "fnExactRunTo", unfollowed := true, recurses := true, apart := false, narrowed := true }
def FnExactRunToUptoSaid : Prop := fnExactRunToUptoRow.holds Tryz.pinned (OpenSpec.upto fnExactRunToSpec)

end Rows
end Go.Proofs.YtmnkgcjbckamnaaGreat
