/-
  No cell of these rows narrows 'for every input' (looked for: loops, veiled, ifaces, maps, wideKeys, modest, calm, conditions, laid).
  DERIVED. THE GIVEN ROWS OF THIS SEAT. 5 by the template 'for every input the law returns true; each argument reads behind the call as it read before'; 0 by the template 'total and deterministic' (their statements: YthdpkcmeepabjaaGreatTotals.lean).
  GIVEN WITH THE SEED: the statements are not yours to turn. If you find one false, say at which input.
  Laid BY PROGRAM, IN A SANDBOX (cutbox-rows.mjs): the forced cells as the released guide's own fill.sh prints them over the translation 327355b0742ccd36… (all of the seat's roots in one cut). By AI agents, Wed Nov 11 2026. No macro, syntax, notation, axiom, sorry.
-/
import Derived.Test.YthdpkcmeepabjaaGreatChecked
import GoSem.Claim
import GoSem.ClaimJoined
import GoSem.ClaimMapViews
import Derived.JoinedTies
import Derived.KernelRfl
namespace Go.Proofs.YthdpkcmeepabjaaGreat
/- THE CELL 'sum', in the pinned program and in every row, IS THE sha256 OF THE DUMP (.gsa) THAT YthdpkcmeepabjaaGreatProg.lean LOADS. Nothing in Lean hashes anything: it is a label: what it is worth is what the hold of that sum in a sandbox is worth. -/
noncomputable def Tryz.pinned : Pinned := { name := "ythdpkcmeepabjaagreat", sum := "327355b0742ccd3635d0305acc456f1957a967575d9da971e9ec7788e8e55f30", checked := Tryz.checked }
namespace Rows
def none {H : Type} : Left H := { results := [], args := [] }

/-- 'laws.FnExactLiveIn': WHATEVER THE INPUT: true; the input reads as it did. -/
def fnExactLiveInSpec : ChangeSpec := { name := "fnExactLiveIn", fn := fun _ => fun
  | [d1, d2] => { results := [.lit (.bool true)], args := [d1, d2] }
  | _ => none }
def fnExactLiveInRow : OpenClaim := { program := "ythdpkcmeepabjaagreat", sum := "327355b0742ccd3635d0305acc456f1957a967575d9da971e9ec7788e8e55f30", func := "loop.example/g00745/laws.FnExactLiveIn", spec := "fnExactLiveIn", unfollowed := true, recurses := true, apart := false }
def FnExactLiveInSaid : Prop := fnExactLiveInRow.holds Tryz.pinned (OpenSpec.ofChange fnExactLiveInSpec)

/-- ITS FALSE NEIGHBOUR: 'it returns false'. Refute it at one input. -/
def fnExactLiveInWrong : ChangeSpec := { name := "fnExactLiveIn", fn := fun _ => fun
  | [d1, d2] => { results := [.lit (.bool false)], args := [d1, d2] }
  | _ => none }
def FnExactLiveInWrongFalsely : Prop := fnExactLiveInRow.holds Tryz.pinned (OpenSpec.ofChange fnExactLiveInWrong)

/-- 'laws.FnExactNewVm': WHATEVER THE INPUT: true; the input reads as it did. -/
def fnExactNewVmSpec : ChangeSpec := { name := "fnExactNewVm", fn := fun _ => fun
  | [d] => { results := [.lit (.bool true)], args := [d] }
  | _ => none }
def fnExactNewVmRow : OpenClaim := { program := "ythdpkcmeepabjaagreat", sum := "327355b0742ccd3635d0305acc456f1957a967575d9da971e9ec7788e8e55f30", func := "loop.example/g00745/laws.FnExactNewVm", spec := "fnExactNewVm", unfollowed := true, recurses := true, apart := false }
def FnExactNewVmSaid : Prop := fnExactNewVmRow.holds Tryz.pinned (OpenSpec.ofChange fnExactNewVmSpec)

/-- ITS FALSE NEIGHBOUR: 'it returns false'. Refute it at one input. -/
def fnExactNewVmWrong : ChangeSpec := { name := "fnExactNewVm", fn := fun _ => fun
  | [d] => { results := [.lit (.bool false)], args := [d] }
  | _ => none }
def FnExactNewVmWrongFalsely : Prop := fnExactNewVmRow.holds Tryz.pinned (OpenSpec.ofChange fnExactNewVmWrong)

/-- 'laws.FnExactIsRaising': WHATEVER THE INPUT: true; the input reads as it did. -/
def fnExactIsRaisingSpec : ChangeSpec := { name := "fnExactIsRaising", fn := fun _ => fun
  | [d1, d2] => { results := [.lit (.bool true)], args := [d1, d2] }
  | _ => none }
def fnExactIsRaisingRow : OpenClaim := { program := "ythdpkcmeepabjaagreat", sum := "327355b0742ccd3635d0305acc456f1957a967575d9da971e9ec7788e8e55f30", func := "loop.example/g00745/laws.FnExactIsRaising", spec := "fnExactIsRaising", unfollowed := true, recurses := true, apart := false }
def FnExactIsRaisingSaid : Prop := fnExactIsRaisingRow.holds Tryz.pinned (OpenSpec.ofChange fnExactIsRaisingSpec)

/-- ITS FALSE NEIGHBOUR: 'it returns false'. Refute it at one input. -/
def fnExactIsRaisingWrong : ChangeSpec := { name := "fnExactIsRaising", fn := fun _ => fun
  | [d1, d2] => { results := [.lit (.bool false)], args := [d1, d2] }
  | _ => none }
def FnExactIsRaisingWrongFalsely : Prop := fnExactIsRaisingRow.holds Tryz.pinned (OpenSpec.ofChange fnExactIsRaisingWrong)

/-- 'laws.FnExactMayStop': WHATEVER THE INPUT: true; the input reads as it did. -/
def fnExactMayStopSpec : ChangeSpec := { name := "fnExactMayStop", fn := fun _ => fun
  | [d1, d2, d3] => { results := [.lit (.bool true)], args := [d1, d2, d3] }
  | _ => none }
def fnExactMayStopRow : OpenClaim := { program := "ythdpkcmeepabjaagreat", sum := "327355b0742ccd3635d0305acc456f1957a967575d9da971e9ec7788e8e55f30", func := "loop.example/g00745/laws.FnExactMayStop", spec := "fnExactMayStop", unfollowed := true, recurses := true, apart := false }
def FnExactMayStopSaid : Prop := fnExactMayStopRow.holds Tryz.pinned (OpenSpec.ofChange fnExactMayStopSpec)

/-- ITS FALSE NEIGHBOUR: 'it returns false'. Refute it at one input. -/
def fnExactMayStopWrong : ChangeSpec := { name := "fnExactMayStop", fn := fun _ => fun
  | [d1, d2, d3] => { results := [.lit (.bool false)], args := [d1, d2, d3] }
  | _ => none }
def FnExactMayStopWrongFalsely : Prop := fnExactMayStopRow.holds Tryz.pinned (OpenSpec.ofChange fnExactMayStopWrong)

/-- 'laws.FnExactSearchUp': WHATEVER THE INPUT: true; the input reads as it did. -/
def fnExactSearchUpSpec : ChangeSpec := { name := "fnExactSearchUp", fn := fun _ => fun
  | [d1, d2] => { results := [.lit (.bool true)], args := [d1, d2] }
  | _ => none }
def fnExactSearchUpRow : OpenClaim := { program := "ythdpkcmeepabjaagreat", sum := "327355b0742ccd3635d0305acc456f1957a967575d9da971e9ec7788e8e55f30", func := "loop.example/g00745/laws.FnExactSearchUp", spec := "fnExactSearchUp", unfollowed := true, recurses := true, apart := false }
def FnExactSearchUpSaid : Prop := fnExactSearchUpRow.holds Tryz.pinned (OpenSpec.ofChange fnExactSearchUpSpec)

/-- ITS FALSE NEIGHBOUR: 'it returns false'. Refute it at one input. -/
def fnExactSearchUpWrong : ChangeSpec := { name := "fnExactSearchUp", fn := fun _ => fun
  | [d1, d2] => { results := [.lit (.bool false)], args := [d1, d2] }
  | _ => none }
def FnExactSearchUpWrongFalsely : Prop := fnExactSearchUpRow.holds Tryz.pinned (OpenSpec.ofChange fnExactSearchUpWrong)

/- THE SECOND FORM. 'bulk': how many values and letters a reading holds, each counted each time it is reached (what is shared counts as often as it is met; a slice's spare places count too). A statement '..UptoSaid' is the law's where the arguments, and the package variables that the reading takes, are together of bulk at most 1048576: NARROWER than '..Said'. Prove '..Said' where nothing that the law and all that it calls make is longer than what came in: it says more and counts as full. Else prove '..UptoSaid'. A law counts once. -/
mutual
def uptoBulk {H : Type} : DataW H → Nat
  | .lit (.string bytes) => bytes.length + 1
  | .lit _ => 1
  | .nil => 1
  | .ptr d => uptoBulk d + 1
  | .slice elems spare => uptoBulkAll elems + uptoBulkAll spare + 1
  | .agg parts => uptoBulkAll parts + 1
  | .iface _ d => uptoBulk d + 1
  | .map entries => uptoBulkEntries entries + 1
  | .held _ => 1
def uptoBulkAll {H : Type} : List (DataW H) → Nat
  | [] => 0
  | d :: r => uptoBulk d + uptoBulkAll r
def uptoBulkEntries {H : Type} : List (Lit × DataW H) → Nat
  | [] => 0
  | x :: r => uptoBulkEntry x + uptoBulkEntries r
def uptoBulkEntry {H : Type} : Lit × DataW H → Nat
  | (.string bytes, d) => bytes.length + uptoBulk d + 1
  | (_, d) => uptoBulk d + 1
 end
def uptoSmall : (H : Type) → List (DataW H) → Bool := fun _ ds => decide (uptoBulkAll ds ≤ 1048576)
def OpenSpec.upto (s : _root_.Go.ChangeSpec) : _root_.Go.OpenSpec := { _root_.Go.OpenSpec.ofChange s with cond := some uptoSmall }

/-- 'laws.FnExactLiveIn', WHERE WHAT IT READS IS OF BULK AT MOST 1048576: true; the input reads as it did. -/
def fnExactLiveInUptoRow : OpenClaim := { program := "ythdpkcmeepabjaagreat", sum := "327355b0742ccd3635d0305acc456f1957a967575d9da971e9ec7788e8e55f30", func := "loop.example/g00745/laws.FnExactLiveIn", spec := "fnExactLiveIn", unfollowed := true, recurses := true, apart := false, narrowed := true }
def FnExactLiveInUptoSaid : Prop := fnExactLiveInUptoRow.holds Tryz.pinned (OpenSpec.upto fnExactLiveInSpec)

/-- 'laws.FnExactNewVm', WHERE WHAT IT READS IS OF BULK AT MOST 1048576: true; the input reads as it did. -/
def fnExactNewVmUptoRow : OpenClaim := { program := "ythdpkcmeepabjaagreat", sum := "327355b0742ccd3635d0305acc456f1957a967575d9da971e9ec7788e8e55f30", func := "loop.example/g00745/laws.FnExactNewVm", spec := "fnExactNewVm", unfollowed := true, recurses := true, apart := false, narrowed := true }
def FnExactNewVmUptoSaid : Prop := fnExactNewVmUptoRow.holds Tryz.pinned (OpenSpec.upto fnExactNewVmSpec)

/-- 'laws.FnExactIsRaising', WHERE WHAT IT READS IS OF BULK AT MOST 1048576: true; the input reads as it did. -/
def fnExactIsRaisingUptoRow : OpenClaim := { program := "ythdpkcmeepabjaagreat", sum := "327355b0742ccd3635d0305acc456f1957a967575d9da971e9ec7788e8e55f30", func := "loop.example/g00745/laws.FnExactIsRaising", spec := "fnExactIsRaising", unfollowed := true, recurses := true, apart := false, narrowed := true }
def FnExactIsRaisingUptoSaid : Prop := fnExactIsRaisingUptoRow.holds Tryz.pinned (OpenSpec.upto fnExactIsRaisingSpec)

/-- 'laws.FnExactMayStop', WHERE WHAT IT READS IS OF BULK AT MOST 1048576: true; the input reads as it did. -/
def fnExactMayStopUptoRow : OpenClaim := { program := "ythdpkcmeepabjaagreat", sum := "327355b0742ccd3635d0305acc456f1957a967575d9da971e9ec7788e8e55f30", func := "loop.example/g00745/laws.FnExactMayStop", spec := "fnExactMayStop", unfollowed := true, recurses := true, apart := false, narrowed := true }
def FnExactMayStopUptoSaid : Prop := fnExactMayStopUptoRow.holds Tryz.pinned (OpenSpec.upto fnExactMayStopSpec)

/-- 'laws.FnExactSearchUp', WHERE WHAT IT READS IS OF BULK AT MOST 1048576: true; the input reads as it did. -/
def fnExactSearchUpUptoRow : OpenClaim := { program := "ythdpkcmeepabjaagreat", sum := "327355b0742ccd3635d0305acc456f1957a967575d9da971e9ec7788e8e55f30", func := "loop.example/g00745/laws.FnExactSearchUp", spec := "fnExactSearchUp", unfollowed := true, recurses := true, apart := false, narrowed := true }
def FnExactSearchUpUptoSaid : Prop := fnExactSearchUpUptoRow.holds Tryz.pinned (OpenSpec.upto fnExactSearchUpSpec)

end Rows
end Go.Proofs.YthdpkcmeepabjaaGreat
