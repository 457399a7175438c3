/- For all notes the program's CheckNotes returns what the reference's returns: FnExactCheckNotes returns true, and its argument reads as it did. No condition beyond the row's own. -/
import Derived.Test.YtgdeclmciflmpaaChkC
import Derived.Test.YtgdeclmciflmpaaKit1
import Derived.Deep.RegionHeld3
set_option linter.unusedVariables false
set_option linter.unusedSimpArgs false
set_option maxRecDepth 100000
namespace Go.Proofs.Ytgdeclmciflmpaa
open Go.ChangeShapes Go.WideShapes Go.ChangeAt Go.RowKit
open Go.ChangeMaps (open_string)

set_option maxHeartbeats 4000000 in
theorem fnCheckNotes (w : World) (Aa : Option Addr) (na ca : Nat) (la : List Note) (ha : Sl noteR w 0 w.heap.size Aa na ca la) :
    Calls Try.prog 3 #[.slice Aa na ca] w (RetB true w) := by
  go_enter Try.func3, Try.ntmps3
  have e1a := Lib.hid ha.lenEq
  have hb : Below w.heap.size w w := Below.refl _ _
  go_wp2_with fail
  refine (lawsSzNoteS _ na ca Aa 1048576 (by omega) (by omega) ha.lenLe).mono ?_
  rintro e w1 ⟨ra, rfl, hra, b⟩
  have hx : Below w.heap.size w w1 := by exact belA
  replace hb := below_then hb hx
  replace ha := ha.next hx
  clear hx
  clear b
  rcases hra with rfl | ⟨qa, ta⟩
  · go_wp2_with fail
    go_ret
    exact RetB.mk rfl hb
  have ma : na ≤ 1048576 := by omega
  have ua : ra ≤ 1048576 := by omega
  clear ta
  go_wp2_with fail
  refine (lawsToNoteS _ 0 _ na ca Aa la (ha.next (by exact belA)) (Nat.le_refl _) ma).mono ?_
  rintro e w2 ⟨Faq, Aaq, naq, caq, rfl, oaq, faq, b⟩
  have hx : Below w1.heap.size w1 w2 := by exact belA
  replace hb := below_then hb hx
  replace ha := ha.next hx
  clear hx
  clear b
  have gaq := oaq.sl
  clear oaq faq
  go_wp2_with fail
  refine (specCheckNotesC _ Aaq naq caq la (gaq.next (by exact belA)) (by rw [e1a.out]; exact ma)).mono ?_
  rintro e w3 ⟨rfl, b⟩
  have hx : Below w2.heap.size w2 w3 := by exact belA
  replace hb := below_then hb hx
  replace ha := ha.next hx
  replace gaq := gaq.next hx
  clear hx
  clear b
  clear gaq
  go_wp2_with fail
  refine (lawsToNoteS _ 0 _ na ca Aa la (ha.next (by exact belA)) (Nat.le_refl _) ma).mono ?_
  rintro e w4 ⟨Fax, Aax, nax, cax, rfl, oax, fax, b⟩
  have hx : Below w3.heap.size w3 w4 := by exact belA
  replace hb := below_then hb hx
  replace ha := ha.next hx
  clear hx
  clear b
  have gax := oax.sl
  clear oax fax
  go_wp2_with fail
  refine (implCheckNotesC _ Aax nax cax la (gax.next (by exact belA)) (by rw [e1a.out]; exact ma)).mono ?_
  rintro e w5 ⟨rfl, b⟩
  have hx : Below w4.heap.size w4 w5 := by exact belA
  replace hb := below_then hb hx
  replace ha := ha.next hx
  replace gax := gax.next hx
  clear hx
  clear b
  go_wp2_with fail
  refine (lawsToNoteS _ 0 _ na ca Aa la (ha.next (by exact belA)) (Nat.le_refl _) ma).mono ?_
  rintro e w6 ⟨Fay, Aay, nay, cay, rfl, oay, fay, b⟩
  have hx : Below w5.heap.size w5 w6 := by exact belA
  replace hb := below_then hb hx
  replace ha := ha.next hx
  replace gax := gax.next hx
  clear hx
  clear b
  have gy := oay.sl
  clear oay fay
  have hE := eqB_true (rfl : la = la)
  go_wp2_with fail
  refine (lawsEqNoteS _ 0 _ 0 _ nax nay cax cay Aax Aay _ _ (gax.next (by exact belA)) (gy.next (by exact belA)) (Nat.le_refl _) (Nat.le_refl _)).mono ?_
  rintro e w7 ⟨rfl, b⟩
  have hx : Below w6.heap.size w6 w7 := by exact belA
  replace hb := below_then hb hx
  replace ha := ha.next hx
  replace gax := gax.next hx
  clear hx
  clear b
  clear gy
  go_wp2_with fail
  go_ret
  exact RetB.mk rfl hb

theorem fnCheckNotesA (w : World) (Aa : Option Addr) (na ca : Nat) (la : List Note) (ha : Sl noteR w 0 w.heap.size Aa na ca la) :
    Calls Try.prog 3 #[.slice Aa na ca] w (RetB true w) := by
  exact fnCheckNotes w Aa na ca la ha

end Go.Proofs.Ytgdeclmciflmpaa
