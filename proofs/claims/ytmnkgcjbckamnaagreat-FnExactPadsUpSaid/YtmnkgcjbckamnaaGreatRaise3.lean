/- Whether a machine is at an instruction that raises a panic: the whole of both sides. -/
import Derived.Test.YtmnkgcjbckamnaaGreatRaise2
set_option linter.unusedVariables false
set_option linter.unusedSimpArgs false
set_option maxRecDepth 100000
namespace Go.Proofs.YtmnkgcjbckamnaaGreat
open Go.RowKit
noncomputable def gvB (x : Image) (fs : List Frame) (tr : List Int) (x2 x3 x4 x5 : Int) : Bool := goodI x && vmB x fs tr x2 x3 x4 x5
noncomputable def raisR (x : Image) (fs : List Frame) (tr : List Int) (x2 x3 x4 x5 : Int) : Bool := gvB x fs tr x2 x3 x4 x5 && raiseB x fs x3
end Go.Proofs.YtmnkgcjbckamnaaGreat
