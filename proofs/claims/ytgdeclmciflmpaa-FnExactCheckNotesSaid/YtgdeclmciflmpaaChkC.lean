/- CheckNotes: contracts of both sides. -/
import Derived.Test.YtgdeclmciflmpaaChkT
set_option linter.unusedVariables false
namespace Go.Proofs.Ytgdeclmciflmpaa
open Go.RowKit
theorem implCheckNotesC (w : World) (A : Option Addr) (n c : Nat) (l : List Note) (h : Sl noteR w 0 w.heap.size A n c l) (hz : l.length ≤ 1048576) :
    Calls Try.prog 12 #[.slice A n c] w (RetV (.tuple #[.int .i64 (chkNR l).1, .int .i64 (chkNR l).2.1, .bool (chkNR l).2.2]) w) :=
  implCheckNotes1 w 0 w.heap.size n c A l h (Nat.le_refl _) (by have := h.lenEq; omega)
theorem specCheckNotesC (w : World) (A : Option Addr) (n c : Nat) (l : List Note) (h : Sl noteR w 0 w.heap.size A n c l) (hz : l.length ≤ 1048576) :
    Calls Try.prog 10 #[.slice A n c] w (RetV (.tuple #[.int .i64 (chkNR l).1, .int .i64 (chkNR l).2.1, .bool (chkNR l).2.2]) w) :=
  specCheckNotes1 w 0 w.heap.size n c A l h (Nat.le_refl _) (by have := h.lenEq; omega)
end Go.Proofs.Ytgdeclmciflmpaa
