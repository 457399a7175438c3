/-
  No cell of these rows narrows 'for every input' (looked for: loops, veiled, ifaces, maps, wideKeys, modest, calm, conditions, laid).
  DERIVED. THE GIVEN ROWS OF THIS SEAT. 3 by the template 'for every input the law returns true; each argument reads behind the call as it read before'; 0 by the template 'total and deterministic' (their statements: YtgoinmdnpaknpaaTotals.lean).
  GIVEN WITH THE SEED: the statements are not yours to turn. If you find one false, say at which input.
  Laid BY PROGRAM, IN A SANDBOX (cutbox-rows.mjs): the forced cells as the released guide's own fill.sh prints them over the translation 00d8fa1a1af3ee4c… (all of the seat's roots in one cut). By AI agents, Wed Nov 11 2026. No macro, syntax, notation, axiom, sorry.
-/
import Derived.Test.YtgoinmdnpaknpaaChecked
import GoSem.Claim
import GoSem.ClaimJoined
import GoSem.ClaimMapViews
import Derived.JoinedTies
import Derived.KernelRfl
namespace Go.Proofs.Ytgoinmdnpaknpaa
/- THE CELL 'sum', in the pinned program and in every row, IS THE sha256 OF THE DUMP (.gsa) THAT YtgoinmdnpaknpaaProg.lean LOADS. Nothing in Lean hashes anything: it is a label: what it is worth is what the hold of that sum in a sandbox is worth. -/
noncomputable def Try.pinned : Pinned := { name := "ytgoinmdnpaknpaa", sum := "00d8fa1a1af3ee4c41823c7052f685ad48567df70f69aff54311f79f1f0864f5", checked := Try.checked }
namespace Rows
def none {H : Type} : Left H := { results := [], args := [] }

/-- 'laws.FnExactOpenIn': WHATEVER THE INPUT: true; the input reads as it did. -/
def fnExactOpenInSpec : ChangeSpec := { name := "fnExactOpenIn", fn := fun _ => fun
  | [d] => { results := [.lit (.bool true)], args := [d] }
  | _ => none }
def fnExactOpenInRow : OpenClaim := { program := "ytgoinmdnpaknpaa", sum := "00d8fa1a1af3ee4c41823c7052f685ad48567df70f69aff54311f79f1f0864f5", func := "loop.example/g00745/laws.FnExactOpenIn", spec := "fnExactOpenIn", unfollowed := true, recurses := true, plainKeys := false, apart := false }
def FnExactOpenInSaid : Prop := fnExactOpenInRow.holds Try.pinned (OpenSpec.ofChange fnExactOpenInSpec)

/-- ITS FALSE NEIGHBOUR: 'it returns false'. Refute it at one input. -/
def fnExactOpenInWrong : ChangeSpec := { name := "fnExactOpenIn", fn := fun _ => fun
  | [d] => { results := [.lit (.bool false)], args := [d] }
  | _ => none }
def FnExactOpenInWrongFalsely : Prop := fnExactOpenInRow.holds Try.pinned (OpenSpec.ofChange fnExactOpenInWrong)

/-- 'laws.FnExactFuelFor': WHATEVER THE INPUT: true; the input reads as it did. -/
def fnExactFuelForSpec : ChangeSpec := { name := "fnExactFuelFor", fn := fun _ => fun
  | [d1, d2, d3] => { results := [.lit (.bool true)], args := [d1, d2, d3] }
  | _ => none }
def fnExactFuelForRow : OpenClaim := { program := "ytgoinmdnpaknpaa", sum := "00d8fa1a1af3ee4c41823c7052f685ad48567df70f69aff54311f79f1f0864f5", func := "loop.example/g00745/laws.FnExactFuelFor", spec := "fnExactFuelFor", unfollowed := true, recurses := true, plainKeys := false, apart := false }
def FnExactFuelForSaid : Prop := fnExactFuelForRow.holds Try.pinned (OpenSpec.ofChange fnExactFuelForSpec)

/-- ITS FALSE NEIGHBOUR: 'it returns false'. Refute it at one input. -/
def fnExactFuelForWrong : ChangeSpec := { name := "fnExactFuelFor", fn := fun _ => fun
  | [d1, d2, d3] => { results := [.lit (.bool false)], args := [d1, d2, d3] }
  | _ => none }
def FnExactFuelForWrongFalsely : Prop := fnExactFuelForRow.holds Try.pinned (OpenSpec.ofChange fnExactFuelForWrong)

/-- 'laws.FnExactRunBig': WHATEVER THE INPUT: true; the input reads as it did. -/
def fnExactRunBigSpec : ChangeSpec := { name := "fnExactRunBig", fn := fun _ => fun
  | [d1, d2, d3, d4] => { results := [.lit (.bool true)], args := [d1, d2, d3, d4] }
  | _ => none }
def fnExactRunBigRow : OpenClaim := { program := "ytgoinmdnpaknpaa", sum := "00d8fa1a1af3ee4c41823c7052f685ad48567df70f69aff54311f79f1f0864f5", func := "loop.example/g00745/laws.FnExactRunBig", spec := "fnExactRunBig", unfollowed := true, recurses := true, plainKeys := false, apart := false }
def FnExactRunBigSaid : Prop := fnExactRunBigRow.holds Try.pinned (OpenSpec.ofChange fnExactRunBigSpec)

/-- ITS FALSE NEIGHBOUR: 'it returns false'. Refute it at one input. -/
def fnExactRunBigWrong : ChangeSpec := { name := "fnExactRunBig", fn := fun _ => fun
  | [d1, d2, d3, d4] => { results := [.lit (.bool false)], args := [d1, d2, d3, d4] }
  | _ => none }
def FnExactRunBigWrongFalsely : Prop := fnExactRunBigRow.holds Try.pinned (OpenSpec.ofChange fnExactRunBigWrong)

/- THE SECOND FORM. 'bulk': how many values and letters a reading holds, each counted each time it is reached (what is shared counts as often as it is met; a slice's spare places count too). A statement '..UptoSaid' is the law's where the arguments, and the package variables that the reading takes, are together of bulk at most 1048576: NARROWER than '..Said'. Prove '..Said' where nothing that the law and all that it calls make is longer than what came in: it says more and counts as full. Else prove '..UptoSaid'. A law counts once. -/
mutual
def uptoBulk {H : Type} : DataW H → Nat
  | .lit (.string bytes) => bytes.length + 1
  | .lit _ => 1
  | .nil => 1
  | .ptr d => uptoBulk d + 1
  | .slice elems spare => uptoBulkAll elems + uptoBulkAll spare + 1
  | .agg parts => uptoBulkAll parts + 1
  | .iface _ d => uptoBulk d + 1
  | .map entries => uptoBulkEntries entries + 1
  | .held _ => 1
def uptoBulkAll {H : Type} : List (DataW H) → Nat
  | [] => 0
  | d :: r => uptoBulk d + uptoBulkAll r
def uptoBulkEntries {H : Type} : List (Lit × DataW H) → Nat
  | [] => 0
  | x :: r => uptoBulkEntry x + uptoBulkEntries r
def uptoBulkEntry {H : Type} : Lit × DataW H → Nat
  | (.string bytes, d) => bytes.length + uptoBulk d + 1
  | (_, d) => uptoBulk d + 1
 end
def uptoSmall : (H : Type) → List (DataW H) → Bool := fun _ ds => decide (uptoBulkAll ds ≤ 1048576)
def OpenSpec.upto (s : _root_.Go.ChangeSpec) : _root_.Go.OpenSpec := { _root_.Go.OpenSpec.ofChange s with cond := some uptoSmall }

/-- 'laws.FnExactOpenIn', WHERE WHAT IT READS IS OF BULK AT MOST 1048576: true; the input reads as it did. -/
def fnExactOpenInUptoRow : OpenClaim := { program := "ytgoinmdnpaknpaa", sum := "00d8fa1a1af3ee4c41823c7052f685ad48567df70f69aff54311f79f1f0864f5", func := "loop.example/g00745/laws.FnExactOpenIn", spec := "fnExactOpenIn", unfollowed := true, recurses := true, plainKeys := false, apart := false, narrowed := true }
def FnExactOpenInUptoSaid : Prop := fnExactOpenInUptoRow.holds Try.pinned (OpenSpec.upto fnExactOpenInSpec)

/-- 'laws.FnExactFuelFor', WHERE WHAT IT READS IS OF BULK AT MOST 1048576: true; the input reads as it did. -/
def fnExactFuelForUptoRow : OpenClaim := { program := "ytgoinmdnpaknpaa", sum := "00d8fa1a1af3ee4c41823c7052f685ad48567df70f69aff54311f79f1f0864f5", func := "loop.example/g00745/laws.FnExactFuelFor", spec := "fnExactFuelFor", unfollowed := true, recurses := true, plainKeys := false, apart := false, narrowed := true }
def FnExactFuelForUptoSaid : Prop := fnExactFuelForUptoRow.holds Try.pinned (OpenSpec.upto fnExactFuelForSpec)

/-- 'laws.FnExactRunBig', WHERE WHAT IT READS IS OF BULK AT MOST 1048576: true; the input reads as it did. -/
def fnExactRunBigUptoRow : OpenClaim := { program := "ytgoinmdnpaknpaa", sum := "00d8fa1a1af3ee4c41823c7052f685ad48567df70f69aff54311f79f1f0864f5", func := "loop.example/g00745/laws.FnExactRunBig", spec := "fnExactRunBig", unfollowed := true, recurses := true, plainKeys := false, apart := false, narrowed := true }
def FnExactRunBigUptoSaid : Prop := fnExactRunBigUptoRow.holds Try.pinned (OpenSpec.upto fnExactRunBigSpec)

end Rows
end Go.Proofs.Ytgoinmdnpaknpaa
