/-
  No cell of these rows narrows 'for every input' (looked for: loops, veiled, ifaces, maps, wideKeys, modest, calm, conditions, laid).
  DERIVED. THE GIVEN ROWS OF THIS SEAT. 11 by the template 'for every input the law returns true; each argument reads behind the call as it read before'; 0 by the template 'total and deterministic' (their statements: YtikffchdembbjaaTotals.lean).
  GIVEN WITH THE SEED: the statements are not yours to turn. If you find one false, say at which input.
  Laid BY PROGRAM, IN A SANDBOX (cutbox-rows.mjs): the forced cells as the released guide's own fill.sh prints them over the translation 2dd4cf49ad77e9a6… (all of the seat's roots in one cut). By AI agents, Wed Nov 11 2026. No macro, syntax, notation, axiom, sorry.
-/
import Derived.Test.YtikffchdembbjaaChecked
import GoSem.Claim
import GoSem.ClaimJoined
import GoSem.ClaimMapViews
import Derived.JoinedTies
import Derived.KernelRfl
namespace Go.Proofs.Ytikffchdembbjaa
/- THE CELL 'sum', in the pinned program and in every row, IS THE sha256 OF THE DUMP (.gsa) THAT YtikffchdembbjaaProg.lean LOADS. Nothing in Lean hashes anything: it is a label: what it is worth is what the hold of that sum in a sandbox is worth. -/
noncomputable def Try.pinned : Pinned := { name := "ytikffchdembbjaa", sum := "2dd4cf49ad77e9a6c2217207596eff6cf3a1e692089088c2a90ac7f70bf8fc58", checked := Try.checked }
namespace Rows
def none {H : Type} : Left H := { results := [], args := [] }

/-- 'laws.FnExactSumOf': WHATEVER THE INPUT: true; the input reads as it did. -/
def fnExactSumOfSpec : ChangeSpec := { name := "fnExactSumOf", fn := fun _ => fun
  | [d] => { results := [.lit (.bool true)], args := [d] }
  | _ => none }
def fnExactSumOfRow : OpenClaim := { program := "ytikffchdembbjaa", sum := "2dd4cf49ad77e9a6c2217207596eff6cf3a1e692089088c2a90ac7f70bf8fc58", func := "loop.example/g00745/laws.FnExactSumOf", spec := "fnExactSumOf", apart := false }
def FnExactSumOfSaid : Prop := fnExactSumOfRow.holds Try.pinned (OpenSpec.ofChange fnExactSumOfSpec)

/-- ITS FALSE NEIGHBOUR: 'it returns false'. Refute it at one input. -/
def fnExactSumOfWrong : ChangeSpec := { name := "fnExactSumOf", fn := fun _ => fun
  | [d] => { results := [.lit (.bool false)], args := [d] }
  | _ => none }
def FnExactSumOfWrongFalsely : Prop := fnExactSumOfRow.holds Try.pinned (OpenSpec.ofChange fnExactSumOfWrong)

/-- 'laws.FnExactFirstApart': WHATEVER THE INPUT: true; the input reads as it did. -/
def fnExactFirstApartSpec : ChangeSpec := { name := "fnExactFirstApart", fn := fun _ => fun
  | [d1, d2] => { results := [.lit (.bool true)], args := [d1, d2] }
  | _ => none }
def fnExactFirstApartRow : OpenClaim := { program := "ytikffchdembbjaa", sum := "2dd4cf49ad77e9a6c2217207596eff6cf3a1e692089088c2a90ac7f70bf8fc58", func := "loop.example/g00745/laws.FnExactFirstApart", spec := "fnExactFirstApart", apart := false }
def FnExactFirstApartSaid : Prop := fnExactFirstApartRow.holds Try.pinned (OpenSpec.ofChange fnExactFirstApartSpec)

/-- ITS FALSE NEIGHBOUR: 'it returns false'. Refute it at one input. -/
def fnExactFirstApartWrong : ChangeSpec := { name := "fnExactFirstApart", fn := fun _ => fun
  | [d1, d2] => { results := [.lit (.bool false)], args := [d1, d2] }
  | _ => none }
def FnExactFirstApartWrongFalsely : Prop := fnExactFirstApartRow.holds Try.pinned (OpenSpec.ofChange fnExactFirstApartWrong)

/-- 'laws.FnExactEndsIn': WHATEVER THE INPUT: true; the input reads as it did. -/
def fnExactEndsInSpec : ChangeSpec := { name := "fnExactEndsIn", fn := fun _ => fun
  | [d] => { results := [.lit (.bool true)], args := [d] }
  | _ => none }
def fnExactEndsInRow : OpenClaim := { program := "ytikffchdembbjaa", sum := "2dd4cf49ad77e9a6c2217207596eff6cf3a1e692089088c2a90ac7f70bf8fc58", func := "loop.example/g00745/laws.FnExactEndsIn", spec := "fnExactEndsIn", unfollowed := true, recurses := true, apart := false }
def FnExactEndsInSaid : Prop := fnExactEndsInRow.holds Try.pinned (OpenSpec.ofChange fnExactEndsInSpec)

/-- ITS FALSE NEIGHBOUR: 'it returns false'. Refute it at one input. -/
def fnExactEndsInWrong : ChangeSpec := { name := "fnExactEndsIn", fn := fun _ => fun
  | [d] => { results := [.lit (.bool false)], args := [d] }
  | _ => none }
def FnExactEndsInWrongFalsely : Prop := fnExactEndsInRow.holds Try.pinned (OpenSpec.ofChange fnExactEndsInWrong)

/-- 'laws.FnExactPutsOf': WHATEVER THE INPUT: true; the input reads as it did. -/
def fnExactPutsOfSpec : ChangeSpec := { name := "fnExactPutsOf", fn := fun _ => fun
  | [d1, d2] => { results := [.lit (.bool true)], args := [d1, d2] }
  | _ => none }
def fnExactPutsOfRow : OpenClaim := { program := "ytikffchdembbjaa", sum := "2dd4cf49ad77e9a6c2217207596eff6cf3a1e692089088c2a90ac7f70bf8fc58", func := "loop.example/g00745/laws.FnExactPutsOf", spec := "fnExactPutsOf", unfollowed := true, recurses := true, apart := false }
def FnExactPutsOfSaid : Prop := fnExactPutsOfRow.holds Try.pinned (OpenSpec.ofChange fnExactPutsOfSpec)

/-- ITS FALSE NEIGHBOUR: 'it returns false'. Refute it at one input. -/
def fnExactPutsOfWrong : ChangeSpec := { name := "fnExactPutsOf", fn := fun _ => fun
  | [d1, d2] => { results := [.lit (.bool false)], args := [d1, d2] }
  | _ => none }
def FnExactPutsOfWrongFalsely : Prop := fnExactPutsOfRow.holds Try.pinned (OpenSpec.ofChange fnExactPutsOfWrong)

/-- 'laws.FnExactStartsOf': WHATEVER THE INPUT: true; the input reads as it did. -/
def fnExactStartsOfSpec : ChangeSpec := { name := "fnExactStartsOf", fn := fun _ => fun
  | [d1, d2] => { results := [.lit (.bool true)], args := [d1, d2] }
  | _ => none }
def fnExactStartsOfRow : OpenClaim := { program := "ytikffchdembbjaa", sum := "2dd4cf49ad77e9a6c2217207596eff6cf3a1e692089088c2a90ac7f70bf8fc58", func := "loop.example/g00745/laws.FnExactStartsOf", spec := "fnExactStartsOf", unfollowed := true, recurses := true, apart := false }
def FnExactStartsOfSaid : Prop := fnExactStartsOfRow.holds Try.pinned (OpenSpec.ofChange fnExactStartsOfSpec)

/-- ITS FALSE NEIGHBOUR: 'it returns false'. Refute it at one input. -/
def fnExactStartsOfWrong : ChangeSpec := { name := "fnExactStartsOf", fn := fun _ => fun
  | [d1, d2] => { results := [.lit (.bool false)], args := [d1, d2] }
  | _ => none }
def FnExactStartsOfWrongFalsely : Prop := fnExactStartsOfRow.holds Try.pinned (OpenSpec.ofChange fnExactStartsOfWrong)

/-- 'laws.FnExactLinesIn': WHATEVER THE INPUT: true; the input reads as it did. -/
def fnExactLinesInSpec : ChangeSpec := { name := "fnExactLinesIn", fn := fun _ => fun
  | [d] => { results := [.lit (.bool true)], args := [d] }
  | _ => none }
def fnExactLinesInRow : OpenClaim := { program := "ytikffchdembbjaa", sum := "2dd4cf49ad77e9a6c2217207596eff6cf3a1e692089088c2a90ac7f70bf8fc58", func := "loop.example/g00745/laws.FnExactLinesIn", spec := "fnExactLinesIn", inPlace := ["internal/bytealg.CountString", "internal/bytealg.IndexByteString", "internal/bytealg.IndexString"], named := ["internal/bytealg.MaxLen"], apart := false }
def FnExactLinesInSaid : Prop := fnExactLinesInRow.holds Try.pinned (OpenSpec.ofChange fnExactLinesInSpec)

/-- ITS FALSE NEIGHBOUR: 'it returns false'. Refute it at one input. -/
def fnExactLinesInWrong : ChangeSpec := { name := "fnExactLinesIn", fn := fun _ => fun
  | [d] => { results := [.lit (.bool false)], args := [d] }
  | _ => none }
def FnExactLinesInWrongFalsely : Prop := fnExactLinesInRow.holds Try.pinned (OpenSpec.ofChange fnExactLinesInWrong)

/-- 'laws.FnExactCheckNotes': WHATEVER THE INPUT: true; the input reads as it did. -/
def fnExactCheckNotesSpec : ChangeSpec := { name := "fnExactCheckNotes", fn := fun _ => fun
  | [d] => { results := [.lit (.bool true)], args := [d] }
  | _ => none }
def fnExactCheckNotesRow : OpenClaim := { program := "ytikffchdembbjaa", sum := "2dd4cf49ad77e9a6c2217207596eff6cf3a1e692089088c2a90ac7f70bf8fc58", func := "loop.example/g00745/laws.FnExactCheckNotes", spec := "fnExactCheckNotes", unfollowed := true, recurses := true, apart := false }
def FnExactCheckNotesSaid : Prop := fnExactCheckNotesRow.holds Try.pinned (OpenSpec.ofChange fnExactCheckNotesSpec)

/-- ITS FALSE NEIGHBOUR: 'it returns false'. Refute it at one input. -/
def fnExactCheckNotesWrong : ChangeSpec := { name := "fnExactCheckNotes", fn := fun _ => fun
  | [d] => { results := [.lit (.bool false)], args := [d] }
  | _ => none }
def FnExactCheckNotesWrongFalsely : Prop := fnExactCheckNotesRow.holds Try.pinned (OpenSpec.ofChange fnExactCheckNotesWrong)

/-- 'laws.FnExactSameImage': WHATEVER THE INPUT: true; the input reads as it did. -/
def fnExactSameImageSpec : ChangeSpec := { name := "fnExactSameImage", fn := fun _ => fun
  | [d1, d2] => { results := [.lit (.bool true)], args := [d1, d2] }
  | _ => none }
def fnExactSameImageRow : OpenClaim := { program := "ytikffchdembbjaa", sum := "2dd4cf49ad77e9a6c2217207596eff6cf3a1e692089088c2a90ac7f70bf8fc58", func := "loop.example/g00745/laws.FnExactSameImage", spec := "fnExactSameImage", unfollowed := true, recurses := true, apart := false }
def FnExactSameImageSaid : Prop := fnExactSameImageRow.holds Try.pinned (OpenSpec.ofChange fnExactSameImageSpec)

/-- ITS FALSE NEIGHBOUR: 'it returns false'. Refute it at one input. -/
def fnExactSameImageWrong : ChangeSpec := { name := "fnExactSameImage", fn := fun _ => fun
  | [d1, d2] => { results := [.lit (.bool false)], args := [d1, d2] }
  | _ => none }
def FnExactSameImageWrongFalsely : Prop := fnExactSameImageRow.holds Try.pinned (OpenSpec.ofChange fnExactSameImageWrong)

/-- 'laws.FnExactSameProg': WHATEVER THE INPUT: true; the input reads as it did. -/
def fnExactSameProgSpec : ChangeSpec := { name := "fnExactSameProg", fn := fun _ => fun
  | [d1, d2] => { results := [.lit (.bool true)], args := [d1, d2] }
  | _ => none }
def fnExactSameProgRow : OpenClaim := { program := "ytikffchdembbjaa", sum := "2dd4cf49ad77e9a6c2217207596eff6cf3a1e692089088c2a90ac7f70bf8fc58", func := "loop.example/g00745/laws.FnExactSameProg", spec := "fnExactSameProg", unfollowed := true, recurses := true, apart := false }
def FnExactSameProgSaid : Prop := fnExactSameProgRow.holds Try.pinned (OpenSpec.ofChange fnExactSameProgSpec)

/-- ITS FALSE NEIGHBOUR: 'it returns false'. Refute it at one input. -/
def fnExactSameProgWrong : ChangeSpec := { name := "fnExactSameProg", fn := fun _ => fun
  | [d1, d2] => { results := [.lit (.bool false)], args := [d1, d2] }
  | _ => none }
def FnExactSameProgWrongFalsely : Prop := fnExactSameProgRow.holds Try.pinned (OpenSpec.ofChange fnExactSameProgWrong)

/-- 'laws.FnExactWaitingIn': WHATEVER THE INPUT: true; the input reads as it did. -/
def fnExactWaitingInSpec : ChangeSpec := { name := "fnExactWaitingIn", fn := fun _ => fun
  | [d1, d2] => { results := [.lit (.bool true)], args := [d1, d2] }
  | _ => none }
def fnExactWaitingInRow : OpenClaim := { program := "ytikffchdembbjaa", sum := "2dd4cf49ad77e9a6c2217207596eff6cf3a1e692089088c2a90ac7f70bf8fc58", func := "loop.example/g00745/laws.FnExactWaitingIn", spec := "fnExactWaitingIn", apart := false }
def FnExactWaitingInSaid : Prop := fnExactWaitingInRow.holds Try.pinned (OpenSpec.ofChange fnExactWaitingInSpec)

/-- ITS FALSE NEIGHBOUR: 'it returns false'. Refute it at one input. -/
def fnExactWaitingInWrong : ChangeSpec := { name := "fnExactWaitingIn", fn := fun _ => fun
  | [d1, d2] => { results := [.lit (.bool false)], args := [d1, d2] }
  | _ => none }
def FnExactWaitingInWrongFalsely : Prop := fnExactWaitingInRow.holds Try.pinned (OpenSpec.ofChange fnExactWaitingInWrong)

/-- 'laws.FnExactCodeBytes': WHATEVER THE INPUT: true; the input reads as it did. -/
def fnExactCodeBytesSpec : ChangeSpec := { name := "fnExactCodeBytes", fn := fun _ => fun
  | [d] => { results := [.lit (.bool true)], args := [d] }
  | _ => none }
def fnExactCodeBytesRow : OpenClaim := { program := "ytikffchdembbjaa", sum := "2dd4cf49ad77e9a6c2217207596eff6cf3a1e692089088c2a90ac7f70bf8fc58", func := "loop.example/g00745/laws.FnExactCodeBytes", spec := "fnExactCodeBytes", inPlace := ["internal/abi.NoEscape"], unfollowed := true, recurses := true, apart := false }
def FnExactCodeBytesSaid : Prop := fnExactCodeBytesRow.holds Try.pinned (OpenSpec.ofChange fnExactCodeBytesSpec)

/-- ITS FALSE NEIGHBOUR: 'it returns false'. Refute it at one input. -/
def fnExactCodeBytesWrong : ChangeSpec := { name := "fnExactCodeBytes", fn := fun _ => fun
  | [d] => { results := [.lit (.bool false)], args := [d] }
  | _ => none }
def FnExactCodeBytesWrongFalsely : Prop := fnExactCodeBytesRow.holds Try.pinned (OpenSpec.ofChange fnExactCodeBytesWrong)

/- THE SECOND FORM. 'bulk': how many values and letters a reading holds, each counted each time it is reached (what is shared counts as often as it is met; a slice's spare places count too). A statement '..UptoSaid' is the law's where the arguments, and the package variables that the reading takes, are together of bulk at most 1048576: NARROWER than '..Said'. Prove '..Said' where nothing that the law and all that it calls make is longer than what came in: it says more and counts as full. Else prove '..UptoSaid'. A law counts once. -/
mutual
def uptoBulk {H : Type} : DataW H → Nat
  | .lit (.string bytes) => bytes.length + 1
  | .lit _ => 1
  | .nil => 1
  | .ptr d => uptoBulk d + 1
  | .slice elems spare => uptoBulkAll elems + uptoBulkAll spare + 1
  | .agg parts => uptoBulkAll parts + 1
  | .iface _ d => uptoBulk d + 1
  | .map entries => uptoBulkEntries entries + 1
  | .held _ => 1
def uptoBulkAll {H : Type} : List (DataW H) → Nat
  | [] => 0
  | d :: r => uptoBulk d + uptoBulkAll r
def uptoBulkEntries {H : Type} : List (Lit × DataW H) → Nat
  | [] => 0
  | x :: r => uptoBulkEntry x + uptoBulkEntries r
def uptoBulkEntry {H : Type} : Lit × DataW H → Nat
  | (.string bytes, d) => bytes.length + uptoBulk d + 1
  | (_, d) => uptoBulk d + 1
 end
def uptoSmall : (H : Type) → List (DataW H) → Bool := fun _ ds => decide (uptoBulkAll ds ≤ 1048576)
def OpenSpec.upto (s : _root_.Go.ChangeSpec) : _root_.Go.OpenSpec := { _root_.Go.OpenSpec.ofChange s with cond := some uptoSmall }

/-- 'laws.FnExactSumOf', WHERE WHAT IT READS IS OF BULK AT MOST 1048576: true; the input reads as it did. -/
def fnExactSumOfUptoRow : OpenClaim := { program := "ytikffchdembbjaa", sum := "2dd4cf49ad77e9a6c2217207596eff6cf3a1e692089088c2a90ac7f70bf8fc58", func := "loop.example/g00745/laws.FnExactSumOf", spec := "fnExactSumOf", apart := false, narrowed := true }
def FnExactSumOfUptoSaid : Prop := fnExactSumOfUptoRow.holds Try.pinned (OpenSpec.upto fnExactSumOfSpec)

/-- 'laws.FnExactFirstApart', WHERE WHAT IT READS IS OF BULK AT MOST 1048576: true; the input reads as it did. -/
def fnExactFirstApartUptoRow : OpenClaim := { program := "ytikffchdembbjaa", sum := "2dd4cf49ad77e9a6c2217207596eff6cf3a1e692089088c2a90ac7f70bf8fc58", func := "loop.example/g00745/laws.FnExactFirstApart", spec := "fnExactFirstApart", apart := false, narrowed := true }
def FnExactFirstApartUptoSaid : Prop := fnExactFirstApartUptoRow.holds Try.pinned (OpenSpec.upto fnExactFirstApartSpec)

/-- 'laws.FnExactEndsIn', WHERE WHAT IT READS IS OF BULK AT MOST 1048576: true; the input reads as it did. -/
def fnExactEndsInUptoRow : OpenClaim := { program := "ytikffchdembbjaa", sum := "2dd4cf49ad77e9a6c2217207596eff6cf3a1e692089088c2a90ac7f70bf8fc58", func := "loop.example/g00745/laws.FnExactEndsIn", spec := "fnExactEndsIn", unfollowed := true, recurses := true, apart := false, narrowed := true }
def FnExactEndsInUptoSaid : Prop := fnExactEndsInUptoRow.holds Try.pinned (OpenSpec.upto fnExactEndsInSpec)

/-- 'laws.FnExactPutsOf', WHERE WHAT IT READS IS OF BULK AT MOST 1048576: true; the input reads as it did. -/
def fnExactPutsOfUptoRow : OpenClaim := { program := "ytikffchdembbjaa", sum := "2dd4cf49ad77e9a6c2217207596eff6cf3a1e692089088c2a90ac7f70bf8fc58", func := "loop.example/g00745/laws.FnExactPutsOf", spec := "fnExactPutsOf", unfollowed := true, recurses := true, apart := false, narrowed := true }
def FnExactPutsOfUptoSaid : Prop := fnExactPutsOfUptoRow.holds Try.pinned (OpenSpec.upto fnExactPutsOfSpec)

/-- 'laws.FnExactStartsOf', WHERE WHAT IT READS IS OF BULK AT MOST 1048576: true; the input reads as it did. -/
def fnExactStartsOfUptoRow : OpenClaim := { program := "ytikffchdembbjaa", sum := "2dd4cf49ad77e9a6c2217207596eff6cf3a1e692089088c2a90ac7f70bf8fc58", func := "loop.example/g00745/laws.FnExactStartsOf", spec := "fnExactStartsOf", unfollowed := true, recurses := true, apart := false, narrowed := true }
def FnExactStartsOfUptoSaid : Prop := fnExactStartsOfUptoRow.holds Try.pinned (OpenSpec.upto fnExactStartsOfSpec)

/-- 'laws.FnExactLinesIn', WHERE WHAT IT READS IS OF BULK AT MOST 1048576: true; the input reads as it did. -/
def fnExactLinesInUptoRow : OpenClaim := { program := "ytikffchdembbjaa", sum := "2dd4cf49ad77e9a6c2217207596eff6cf3a1e692089088c2a90ac7f70bf8fc58", func := "loop.example/g00745/laws.FnExactLinesIn", spec := "fnExactLinesIn", inPlace := ["internal/bytealg.CountString", "internal/bytealg.IndexByteString", "internal/bytealg.IndexString"], named := ["internal/bytealg.MaxLen"], apart := false, narrowed := true }
def FnExactLinesInUptoSaid : Prop := fnExactLinesInUptoRow.holds Try.pinned (OpenSpec.upto fnExactLinesInSpec)

/-- 'laws.FnExactCheckNotes', WHERE WHAT IT READS IS OF BULK AT MOST 1048576: true; the input reads as it did. -/
def fnExactCheckNotesUptoRow : OpenClaim := { program := "ytikffchdembbjaa", sum := "2dd4cf49ad77e9a6c2217207596eff6cf3a1e692089088c2a90ac7f70bf8fc58", func := "loop.example/g00745/laws.FnExactCheckNotes", spec := "fnExactCheckNotes", unfollowed := true, recurses := true, apart := false, narrowed := true }
def FnExactCheckNotesUptoSaid : Prop := fnExactCheckNotesUptoRow.holds Try.pinned (OpenSpec.upto fnExactCheckNotesSpec)

/-- 'laws.FnExactSameImage', WHERE WHAT IT READS IS OF BULK AT MOST 1048576: true; the input reads as it did. -/
def fnExactSameImageUptoRow : OpenClaim := { program := "ytikffchdembbjaa", sum := "2dd4cf49ad77e9a6c2217207596eff6cf3a1e692089088c2a90ac7f70bf8fc58", func := "loop.example/g00745/laws.FnExactSameImage", spec := "fnExactSameImage", unfollowed := true, recurses := true, apart := false, narrowed := true }
def FnExactSameImageUptoSaid : Prop := fnExactSameImageUptoRow.holds Try.pinned (OpenSpec.upto fnExactSameImageSpec)

/-- 'laws.FnExactSameProg', WHERE WHAT IT READS IS OF BULK AT MOST 1048576: true; the input reads as it did. -/
def fnExactSameProgUptoRow : OpenClaim := { program := "ytikffchdembbjaa", sum := "2dd4cf49ad77e9a6c2217207596eff6cf3a1e692089088c2a90ac7f70bf8fc58", func := "loop.example/g00745/laws.FnExactSameProg", spec := "fnExactSameProg", unfollowed := true, recurses := true, apart := false, narrowed := true }
def FnExactSameProgUptoSaid : Prop := fnExactSameProgUptoRow.holds Try.pinned (OpenSpec.upto fnExactSameProgSpec)

/-- 'laws.FnExactWaitingIn', WHERE WHAT IT READS IS OF BULK AT MOST 1048576: true; the input reads as it did. -/
def fnExactWaitingInUptoRow : OpenClaim := { program := "ytikffchdembbjaa", sum := "2dd4cf49ad77e9a6c2217207596eff6cf3a1e692089088c2a90ac7f70bf8fc58", func := "loop.example/g00745/laws.FnExactWaitingIn", spec := "fnExactWaitingIn", apart := false, narrowed := true }
def FnExactWaitingInUptoSaid : Prop := fnExactWaitingInUptoRow.holds Try.pinned (OpenSpec.upto fnExactWaitingInSpec)

/-- 'laws.FnExactCodeBytes', WHERE WHAT IT READS IS OF BULK AT MOST 1048576: true; the input reads as it did. -/
def fnExactCodeBytesUptoRow : OpenClaim := { program := "ytikffchdembbjaa", sum := "2dd4cf49ad77e9a6c2217207596eff6cf3a1e692089088c2a90ac7f70bf8fc58", func := "loop.example/g00745/laws.FnExactCodeBytes", spec := "fnExactCodeBytes", inPlace := ["internal/abi.NoEscape"], unfollowed := true, recurses := true, apart := false, narrowed := true }
def FnExactCodeBytesUptoSaid : Prop := fnExactCodeBytesUptoRow.holds Try.pinned (OpenSpec.upto fnExactCodeBytesSpec)

end Rows
end Go.Proofs.Ytikffchdembbjaa
