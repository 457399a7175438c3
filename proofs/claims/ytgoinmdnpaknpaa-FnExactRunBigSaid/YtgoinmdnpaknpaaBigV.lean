/- What is asked of a program's run: walks of both sides. -/
import Derived.Test.YtgoinmdnpaknpaaGood3
import Derived.Test.YtgoinmdnpaknpaaExprG
import Derived.Test.YtgoinmdnpaknpaaKit1
import Derived.Test.YtgoinmdnpaknpaaBigO
set_option linter.unusedVariables false
set_option linter.unusedSimpArgs false
set_option maxRecDepth 100000
namespace Go.Proofs.Ytgoinmdnpaknpaa
open Go.RowKit
attribute [local irreducible] wpList
def askP (x : List Func) (ins : List Int) (most : Int) : Bool := goodP x && decide (ins.length ≤ 10) && ins.all small && inB most 1 12
theorem below_trB {a b c : World} {B : Nat} (h : Below B a b) (k : Below B b c) : Below B a c :=
  ⟨k.os.trans h.os, k.tape.trans h.tape, k.output.trans h.output, Nat.le_trans h.size k.size, fun i hi => (k.block i hi).trans (h.block i hi)⟩
theorem implAreRunnable1 (w : World) (n : Int) (h : I64 n) : Calls Try.prog 58 #[.int .i64 n] w (RetB (!small n) w) := by
  go_enter Try.func58, Try.ntmps58
  go_wp2_with (go_at_call 59; ((with_reducible refine (implIsSmall _ _ h).mono ?_); rintro e w2 ⟨rfl, hb⟩))
  go_ret
  exact RetB.mk rfl hb
theorem implAreRunnable (w : World) (A : Option Addr) (n c : Nat) (x : List Func) (h : Sl FuncR w 0 w.heap.size A n c x) (hm : mszLFunc x ≤ 1048576) (Ai : Option Addr) (ni ci : Nat) (ins : List Int) (hi : Sl intR w 0 w.heap.size Ai ni ci ins) (most : Int) :
    Calls Try.prog 41 #[.agg #[.slice A n c], .slice Ai ni ci, .int .i64 most] w (RetB (askP x ins most) w) := by
  have hil := hi.lenEq
  obtain ⟨b1, hb1⟩ : ∃ b, goodP x = b := ⟨_, rfl⟩
  obtain ⟨b2, hb2⟩ : ∃ b, decide ((ni : Int) ≤ 10) = b := ⟨_, rfl⟩
  obtain ⟨b3, hb3⟩ : ∃ b, ins.all small = b := ⟨_, rfl⟩
  obtain ⟨b4, hb4⟩ : ∃ b, inB most 1 12 = b := ⟨_, rfl⟩
  have B1 := Lib.hid hb1
  have B3 := Lib.hid hb3
  have B4 := Lib.hid hb4
  have HA := Lib.hid (show askP x ins most = (b1 && b2 && b3 && b4) by
    unfold askP
    rw [hb1, hb3, hb4, ← hb2, hil, show decide (ni ≤ 10) = decide ((ni : Int) ≤ 10) from by rw [decide_eq_decide]; omega])
  clear hb1 hb3 hb4 hil
  go_enter Try.func41, Try.ntmps41
  go_wp2_with fail
  obtain ⟨W, hW⟩ : ∃ W, W = w.alloc (.cells #[.slice A n c] 43) := ⟨_, rfl⟩
  have hbW : Below w.heap.size w W := by rw [hW]; exact belA
  rw [← hW]
  clear hW
  have hzW := hbW.size
  refine (implIsProg W 0 w.heap.size A n c x (h.below hbW (Nat.le_refl _)) hzW hm).mono ?_
  rintro e w1 ⟨rfl, hx1⟩
  rw [B1.out]
  have hz1 := hx1.size
  have hbw1 : Below w.heap.size w w1 := below_trB hbW (hx1.mono hzW)
  cases b1
  · go_wp2_with fail
    go_ret
    exact RetB.mk (by rw [HA.out]; rfl) (by exact beloA)
  · cases b2
    · go_wp2_with fail
      go_ret
      exact RetB.mk (by rw [HA.out]; rfl) (by exact beloA)
    · go_wp2_with fail
      refine (implWithin w1 most 1 12).mono ?_
      rintro e w2 ⟨rfl, rfl⟩
      rw [B4.out]
      cases b4
      · go_wp2_with fail
        go_ret
        exact RetB.mk (by rw [HA.out]; cases b3 <;> rfl) (by exact beloA)
      · go_wp2_with fail
        refine (conFuncInt 58 #[] (fun x => !small x) w1 0 w.heap.size ni ci Ai ins (hi.below hbw1 (Nat.le_refl _)) (by omega) (fun _ _ => by kernel_rfl) (fun W x0 _ hW hi => implAreRunnable1 W x0 hi)).mono ?_
        rintro e w3 ⟨rfl, hx3⟩
        have HN := Lib.hid (show (!(ins.any fun x => !small x)) = b3 by rw [any_not_all]; exact B3.out)
        obtain ⟨bb, hbb⟩ : ∃ bb, (ins.any fun x => !small x) = bb := ⟨_, rfl⟩
        have HN := Lib.hid (show (!bb) = b3 by rw [← hbb]; exact HN.out)
        rw [hbb]
        clear hbb
        go_wp2_with fail
        go_ret
        exact RetB.mk (by rw [HN.out, HA.out]; cases b3 <;> rfl) (by exact beloA)
theorem specL4Asked (w : World) (A : Option Addr) (n c : Nat) (x : List Func) (h : Sl FuncR w 0 w.heap.size A n c x) (hm : mszLFunc x ≤ 1048576) (Ai : Option Addr) (ni ci : Nat) (ins : List Int) (hi : Sl intR w 0 w.heap.size Ai ni ci ins) (most : Int) :
    Calls Try.prog 38 #[.agg #[.slice A n c], .slice Ai ni ci, .int .i64 most] w (RetB (askP x ins most) w) := by
  have hil := hi.lenEq
  obtain ⟨b1, hb1⟩ : ∃ b, goodP x = b := ⟨_, rfl⟩
  obtain ⟨b2, hb2⟩ : ∃ b, decide ((ni : Int) ≤ 10) = b := ⟨_, rfl⟩
  obtain ⟨b3, hb3⟩ : ∃ b, ins.all small = b := ⟨_, rfl⟩
  obtain ⟨b4, hb4⟩ : ∃ b, inB most 1 12 = b := ⟨_, rfl⟩
  have B1 := Lib.hid hb1
  have B3 := Lib.hid hb3
  have B4 := Lib.hid hb4
  have HA := Lib.hid (show askP x ins most = (b1 && b2 && b3 && b4) by
    unfold askP
    rw [hb1, hb3, hb4, ← hb2, hil, show decide (ni ≤ 10) = decide ((ni : Int) ≤ 10) from by rw [decide_eq_decide]; omega])
  clear hb1 hb3 hb4 hil
  go_enter Try.func38, Try.ntmps38
  go_wp2_with fail
  obtain ⟨W, hW⟩ : ∃ W, W = w.alloc (.cells #[.slice A n c] 43) := ⟨_, rfl⟩
  have hbW : Below w.heap.size w W := by rw [hW]; exact belA
  rw [← hW]
  clear hW
  have hzW := hbW.size
  refine (specGoodProg W 0 w.heap.size A n c x (h.below hbW (Nat.le_refl _)) hzW hm).mono ?_
  rintro e w1 ⟨rfl, hx1⟩
  rw [B1.out]
  have hz1 := hx1.size
  have hbw1 : Below w.heap.size w w1 := below_trB hbW (hx1.mono hzW)
  cases b1
  · go_wp2_with fail
    go_ret
    exact RetB.mk (by rw [HA.out]; rfl) (by exact beloA)
  · cases b2
    · go_wp2_with fail
      go_ret
      exact RetB.mk (by rw [HA.out]; rfl) (by exact beloA)
    · go_wp2_with fail
      refine (specL1All w1 0 w.heap.size ni ci Ai ins _ _ (hi.below hbw1 (Nat.le_refl _)) (by omega)).mono ?_
      rintro e w2 ⟨rfl, hx2⟩
      rw [show (ins.all fun x => inB x (-2147483648) 2147483647) = b3 from B3.out]
      have hbw2 : Below w.heap.size w w2 := below_trB hbw1 (hx2.mono (by omega))
      cases b3
      · go_wp2_with fail
        go_ret
        exact RetB.mk (by rw [HA.out]; rfl) (by exact beloA)
      · go_wp2_with fail
        refine (specL1In w2 most 1 12).mono ?_
        rintro e w3 ⟨rfl, rfl⟩
        rw [B4.out]
        cases b4
        · go_wp2_with fail
          go_ret
          exact RetB.mk (by rw [HA.out]; rfl) (by exact beloA)
        · go_wp2_with fail
          go_ret
          exact RetB.mk (by rw [HA.out]; rfl) (by exact beloA)
theorem askP_cfg {x : List Func} {ins : List Int} {most : Int} (h : askP x ins most = true) : (1 ≤ most ∧ most ≤ 12) ∧ CfgG ⟨x, ins, most.toNat⟩ := by
  unfold askP at h
  simp only [Bool.and_eq_true, decide_eq_true_eq] at h
  obtain ⟨⟨⟨h1, h2⟩, h3⟩, h4⟩ := h
  have h4 := inB_iff.1 h4
  refine ⟨h4, cfgG_of h1 h2 (fun n hn => ?_) (by omega)⟩
  have := List.all_eq_true.1 h3 n hn
  exact inB_iff.1 this
end Go.Proofs.Ytgoinmdnpaknpaa
