/- Several texts in one: StepQ, StepV, StepU, StepW. -/
import Derived.Test.YtgdeclmciflmpaaGreatStB
import Derived.Test.YtgdeclmciflmpaaGreatStA
import Derived.Test.YtgdeclmciflmpaaGreatSsC

/- A machine's run: steps one behind the other. Plain law, and a new machine in memory. -/
set_option linter.unusedVariables false
set_option linter.unusedSimpArgs false
set_option maxRecDepth 100000
namespace Go.Proofs.YtgdeclmciflmpaaGreat
open Go.RowKit
def newM (x : Image) : MS := { fs := [newFrm x 0 0 [] false], tr := [], used := 0, code := 0, val := 0, made := 1, notes := [] }
/-- A machine as the program's struct: the frames from below. -/
def vmOf (s : MS) : Vm := (s.fs.reverse, s.tr, (s.used : Int), s.code, s.val, s.made, s.notes)
def runM (x : Image) (ins : List Int) (most : Int) : Nat → MS → MS
  | 0, s => s
  | t + 1, s => if s.code = 0 then runM x ins most t (stepF x ins most s) else s
theorem runM_stop {x : Image} {ins : List Int} {most : Int} {s : MS} (h : ¬ s.code = 0) : ∀ t, runM x ins most t s = s
  | 0 => rfl
  | t + 1 => by unfold runM; rw [if_neg h]
noncomputable def askB (x : Image) (ins : List Int) (most : Int) : Bool := goodI x && decide (ins.length ≤ 10) && ins.all small && inB most 1 12
def vm0 : Vm := ([], [], 0, 0, 0, 0, [])
noncomputable def runR (x : Image) (ins : List Int) (most ticks : Int) : Vm := if askB x ins most = true ∧ inB ticks 0 60000 = true then vmOf (runM x ins most ticks.toNat (newM x)) else vm0
section
variable {x : Image} {ins : List Int} {most : Int} {N : Nat} {s : MS}
theorem image_pos (hg : goodI x = true) : 0 < x.length := by have := sizedB_len (goodI_iff.1 hg).1; omega
theorem newM_ok (hg : goodI x = true) : MOk x ins 1 (newM x) := by
  have hx := image_pos hg
  have ht : TopOk x (newFrm x 0 0 [] false) := new_ok hg ⟨by omega, by omega⟩ (by simp [small, inB]) rfl (by
    have hc : CdOk x (codeD x 0) := cd_ok hg (f := (0, 0, 0, [], [], [], 0, 0, 0, 0, false)) ⟨by simp, by simpa using hx⟩
    have := (codeSz_all hc.sz).2.1
    have := (codeSz_all hc.sz).1
    simp
    omega)
  refine ⟨fun _ => ⟨_, [], rfl, ht, rfl⟩, ⟨by simp [newM], by simp [newM]⟩, fun _ => rfl, by simp [newM, small, inB], ⟨by simp [newM], by simp [newM]⟩, Nat.zero_le _, ⟨by simp [newM], by simp [newM]⟩, by simp [newM], fun f hf => ?_, by simp [newM]⟩
  simp only [newM, List.mem_singleton] at hf
  subst hf
  exact ⟨ht.1, by simp [newFrm, fPile]⟩
theorem MOk.rdy (h : MOk x ins N s) (hg : goodI x = true) (hi : ins.all small = true) (hN : N ≤ 1000000) (hm : most ≤ 12) (hc : s.code = 0) : ∃ f rest, Rdy x ins most N s f rest := by
  obtain ⟨f, r, hfs, ht, hs⟩ := h.run hc
  exact ⟨f, r, ⟨hg, h, hN, hc, hfs, ht, hs, hi, hm⟩⟩
end
/-- A new machine in memory. -/
theorem mm_new {C : Cfg} {w : World} {F : List Nat} {vf : Value} (hb : w.heap[C.M]? = some (C.cells vf (.slice none 0 0) 0 0 0 1 (.slice none 0 0))) (ho : OwnSl FrameR w 74 F vf (newM C.x).fs.reverse) (hF : ∀ k, k ∈ F → C.B ≤ k ∧ k ≠ C.M) (hM : C.B ≤ C.M)
    (hx : Sl CodeR w 0 C.B C.ax C.nx C.cx C.x) (hi : Sl intR w 0 C.B C.ai C.ni C.ci C.ins) (hold : Below C.B C.w0 w) (hle : C.B ≤ w.heap.size) (hD : C.D = []) : MM C w vf (newM C.x) := by
  refine ⟨F, [], [], .slice none 0 0, .slice none 0 0, ⟨hb, ho, OwnSl.nil_ .., OwnSl.nil_ .., ?_, fun k hk => ?_, hx, hi, hold, hle, fun k hk => ?_⟩⟩
  · rw [List.append_nil, List.append_nil, List.nodup_cons]
    exact ⟨fun h => (hF _ h).2 rfl, ho.nodup⟩
  · rw [List.append_nil, List.append_nil] at hk
    rcases List.mem_cons.1 hk with rfl | hk
    · exact hM
    · exact (hF k hk).1
  · rw [hD] at hk; cases hk
end Go.Proofs.YtgdeclmciflmpaaGreat

/- What is asked of a run: walks of both sides. -/
set_option linter.unusedVariables false
set_option linter.unusedSimpArgs false
set_option maxRecDepth 100000
namespace Go.Proofs.YtgdeclmciflmpaaGreat
open Go.RowKit
attribute [local irreducible] wpList
theorem implAreRun (w : World) (A : Option Addr) (n c : Nat) (x : List Code) (h : Sl CodeR w 0 w.heap.size A n c x) (Ai : Option Addr) (ni ci : Nat) (ins : List Int) (hi : Sl intR w 0 w.heap.size Ai ni ci ins) (most : Int) :
    Calls Tryz.prog 25 #[.agg #[.slice A n c], .slice Ai ni ci, .int .i64 most] w (RetB (askB x ins most) w) := by
  have hil := hi.lenEq
  obtain ⟨b1, hb1⟩ : ∃ b, goodI x = b := ⟨_, rfl⟩
  obtain ⟨b2, hb2⟩ : ∃ b, decide ((ni : Int) ≤ 10) = b := ⟨_, rfl⟩
  obtain ⟨b3, hb3⟩ : ∃ b, ins.all small = b := ⟨_, rfl⟩
  obtain ⟨b4, hb4⟩ : ∃ b, inB most 1 12 = b := ⟨_, rfl⟩
  have B1 := Lib.hid hb1
  have B3 := Lib.hid hb3
  have B4 := Lib.hid hb4
  have HA := Lib.hid (show askB x ins most = (b1 && b2 && b3 && b4) by
    unfold askB
    rw [hb1, hb3, hb4, ← hb2, hil, show decide (ni ≤ 10) = decide ((ni : Int) ≤ 10) from by rw [decide_eq_decide]; omega])
  clear hb1 hb3 hb4 hil
  go_enter Tryz.func25, Tryz.ntmps25
  go_wp2_with fail
  obtain ⟨W, hW⟩ : ∃ W, W = w.alloc (.cells #[.slice A n c] 35) := ⟨_, rfl⟩
  have hbW : Below w.heap.size w W := by rw [hW]; exact belA
  rw [← hW]
  clear hW
  have hzW := hbW.size
  refine (implIsImage W 0 w.heap.size A n c x (h.below hbW (Nat.le_refl _)) hzW).mono ?_
  rintro e w1 ⟨rfl, hx1⟩
  rw [B1.out]
  have hz1 := hx1.size
  have hbw1 : Below w.heap.size w w1 := below_tr hbW (hx1.mono hzW)
  cases b1
  · go_wp2_with fail
    go_ret
    exact RetB.mk (by rw [HA.out]; rfl) (by exact beloA)
  · cases b2
    · go_wp2_with fail
      go_ret
      exact RetB.mk (by rw [HA.out]; rfl) (by exact beloA)
    · go_wp2_with fail
      refine (implAreSmall w1 0 w.heap.size ni ci Ai ins (hi.below hbw1 (Nat.le_refl _)) (by omega)).mono ?_
      rintro e w2 ⟨rfl, hx2⟩
      rw [B3.out]
      have hbw2 : Below w.heap.size w w2 := below_tr hbw1 (hx2.mono (by omega))
      cases b3
      · go_wp2_with fail
        go_ret
        exact RetB.mk (by rw [HA.out]; rfl) (by exact beloA)
      · go_wp2_with fail
        refine (implWithin w2 most 1 12).mono ?_
        rintro e w3 ⟨rfl, rfl⟩
        rw [B4.out]
        cases b4
        · go_wp2_with fail
          go_ret
          exact RetB.mk (by rw [HA.out]; rfl) (by exact beloA)
        · go_wp2_with fail
          go_ret
          exact RetB.mk (by rw [HA.out]; rfl) (by exact beloA)
theorem specL8Asked (w : World) (A : Option Addr) (n c : Nat) (x : List Code) (h : Sl CodeR w 0 w.heap.size A n c x) (Ai : Option Addr) (ni ci : Nat) (ins : List Int) (hi : Sl intR w 0 w.heap.size Ai ni ci ins) (most : Int) :
    Calls Tryz.prog 20 #[.agg #[.slice A n c], .slice Ai ni ci, .int .i64 most] w (RetB (askB x ins most) w) := by
  have hil := hi.lenEq
  obtain ⟨b1, hb1⟩ : ∃ b, goodI x = b := ⟨_, rfl⟩
  obtain ⟨b2, hb2⟩ : ∃ b, decide ((ni : Int) ≤ 10) = b := ⟨_, rfl⟩
  obtain ⟨b3, hb3⟩ : ∃ b, ins.all small = b := ⟨_, rfl⟩
  obtain ⟨b4, hb4⟩ : ∃ b, inB most 1 12 = b := ⟨_, rfl⟩
  have B1 := Lib.hid hb1
  have B3 := Lib.hid hb3
  have B4 := Lib.hid hb4
  have HA := Lib.hid (show askB x ins most = (b1 && b2 && b3 && b4) by
    unfold askB
    rw [hb1, hb3, hb4, ← hb2, hil, show decide (ni ≤ 10) = decide ((ni : Int) ≤ 10) from by rw [decide_eq_decide]; omega])
  clear hb1 hb3 hb4 hil
  go_enter Tryz.func20, Tryz.ntmps20
  go_wp2_with fail
  obtain ⟨W, hW⟩ : ∃ W, W = w.alloc (.cells #[.slice A n c] 35) := ⟨_, rfl⟩
  have hbW : Below w.heap.size w W := by rw [hW]; exact belA
  rw [← hW]
  clear hW
  have hzW := hbW.size
  refine (specGoodImage W 0 w.heap.size A n c x (h.below hbW (Nat.le_refl _)) hzW).mono ?_
  rintro e w1 ⟨rfl, hx1⟩
  rw [B1.out]
  have hz1 := hx1.size
  have hbw1 : Below w.heap.size w w1 := below_tr hbW (hx1.mono hzW)
  cases b1
  · go_wp2_with fail
    go_ret
    exact RetB.mk (by rw [HA.out]; rfl) (by exact beloA)
  · cases b2
    · go_wp2_with fail
      go_ret
      exact RetB.mk (by rw [HA.out]; rfl) (by exact beloA)
    · go_wp2_with fail
      refine (specL8Bounds w1 0 w.heap.size ni ci Ai ins (hi.below hbw1 (Nat.le_refl _)) (by omega)).mono ?_
      rintro e w2 ⟨rfl, hx2⟩
      rw [B3.out]
      have hbw2 : Below w.heap.size w w2 := below_tr hbw1 (hx2.mono (by omega))
      cases b3
      · go_wp2_with fail
        go_ret
        exact RetB.mk (by rw [HA.out]; rfl) (by exact beloA)
      · go_wp2_with fail
        refine (specL1In w2 most 1 12).mono ?_
        rintro e w3 ⟨rfl, rfl⟩
        rw [B4.out]
        cases b4
        · go_wp2_with fail
          go_ret
          exact RetB.mk (by rw [HA.out]; rfl) (by exact beloA)
        · go_wp2_with fail
          go_ret
          exact RetB.mk (by rw [HA.out]; rfl) (by exact beloA)
end Go.Proofs.YtgdeclmciflmpaaGreat

/- What the runs of both sides need: results, lengths. -/
set_option linter.unusedVariables false
set_option linter.unusedSimpArgs false
set_option maxRecDepth 100000
namespace Go.Proofs.YtgdeclmciflmpaaGreat
open Go.RowKit
def RetVm (v : Vm) (b : Bool) (w : World) (e : Ending) (w' : World) : Prop := RetVO v.1 v.2.1 v.2.2.1 v.2.2.2.1 v.2.2.2.2.1 v.2.2.2.2.2.1 v.2.2.2.2.2.2 b w e w'
theorem MM.res {C : Cfg} {w : World} {vf : Value} {s : MS} (h : MM C w vf s) {vt vn : Value} (h4 : w.cell? ⟨C.M, 4, none⟩ = some vt) (h9 : w.cell? ⟨C.M, 9, none⟩ = some vn) :
    ∃ F0 F1 F6, OwnSl FrameR w 74 F0 vf s.fs.reverse ∧ OwnSl intR w 3 F1 vt s.tr ∧ OwnSl noteR w 97 F6 vn s.notes ∧ (F0 ++ (F1 ++ F6)).Nodup ∧ (∀ k, k ∈ F0 ++ (F1 ++ F6) → C.B ≤ k) := by
  obtain ⟨Ff, Ft, Fn, vt', vn', h⟩ := h
  have e4 := h.mv.m4
  have e9 := h.mv.m9
  rw [h4] at e4
  rw [h9] at e9
  injection e4 with e4
  injection e9 with e9
  subst e4 e9
  have hn := h.nd
  rw [List.nodup_cons] at hn
  exact ⟨Ff, Ft, Fn, h.frs, h.tr, h.notes, hn.2, fun k hk => h.low k (List.mem_cons_of_mem _ hk)⟩
theorem MM.oldB {C : Cfg} {w : World} {vf : Value} {s : MS} (h : MM C w vf s) : Below C.B C.w0 w := by
  obtain ⟨Ff, Ft, Fn, vt, vn, h⟩ := h
  exact h.old
def RetVmS (v : Vm) (b : Bool) (w : World) (e : Ending) (w' : World) : Prop := RetVS v.1 v.2.1 v.2.2.1 v.2.2.2.1 v.2.2.2.2.1 v.2.2.2.2.2.1 v.2.2.2.2.2.2 b w e w'
theorem runM_ok {x : Image} {ins : List Int} {most : Int} (hg : goodI x = true) (hin : ins.all small = true) (hm : most ≤ 12) : ∀ (t N : Nat) (s : MS), N + t ≤ 1000000 → MOk x ins N s → ∃ N', N' ≤ N + t ∧ MOk x ins N' (runM x ins most t s)
  | 0, N, s, _, h => ⟨N, Nat.le_refl _, h⟩
  | t + 1, N, s, hN, h => by
    unfold runM
    by_cases hc : s.code = 0
    · rw [if_pos hc]
      obtain ⟨N', h1, h2⟩ := runM_ok hg hin hm t (N + 1) _ (by omega) (step_ok hg hin (by omega) hm h hc)
      exact ⟨N', by omega, h2⟩
    · rw [if_neg hc]
      exact ⟨N, by omega, h⟩
theorem sum_le50 (f : Frame → Nat) : ∀ (l : List Frame), (∀ x, x ∈ l → f x ≤ 50) → (l.map f).sum ≤ l.length * 50
  | [], _ => by simp
  | x :: l, h => by
    have h1 := h x (List.mem_cons_self ..)
    have h2 := sum_le50 f l fun y hy => h y (List.mem_cons_of_mem _ hy)
    simp only [List.map_cons, List.sum_cons, List.length_cons]
    omega
end Go.Proofs.YtgdeclmciflmpaaGreat

/- The reference's copy of a machine's struct: walk. -/
set_option linter.unusedVariables false
set_option linter.unusedSimpArgs false
set_option maxRecDepth 100000
namespace Go.Proofs.YtgdeclmciflmpaaGreat
open Go.RowKit
attribute [local irreducible] wpList
def noteV (x : Note) : List Value := [.int .i64 x.1, .int .i64 x.2.1, .int .i64 x.2.2]
theorem note_relV {w : World} {lo hi : Nat} {cs : List Value} {x : Note} (h : noteR.rel w lo hi cs x) : cs = noteV x := by
  obtain ⟨_, _, rfl, ⟨rfl, i1⟩, _, _, rfl, ⟨rfl, i2⟩, ⟨rfl, i3⟩⟩ := h
  rfl
theorem src_notes {w : World} {lo hi : Nat} {A : Option Addr} {n c : Nat} {l : List Note} (h : Sl noteR w lo hi A n c l) : Src w 3 A n (encL noteV l) := src_flat h (fun cs x hr => note_relV hr) (fun _ => rfl) (by decide)
theorem src_bools {w : World} {lo hi : Nat} {A : Option Addr} {n c : Nat} {l : List Bool} (h : Sl boolR w lo hi A n c l) : Src w 1 A n (l.map Value.bool) := by
  have e1 := h.lenEq
  refine ⟨by simp [e1], ?_, ?_⟩
  · rintro rfl
    rcases Nat.eq_zero_or_pos n with h0 | h0
    · exact h0
    · obtain ⟨_, _, _, h1, _⟩ := h.at_ h0; cases h1
  · rintro ad rfl j u hu
    have hj : j < l.length := by
      rcases Nat.lt_or_ge j l.length with hj | hj
      · exact hj
      · rw [List.getElem?_eq_none (by simpa using hj)] at hu; cases hu
    obtain ⟨b, o, e, _, _, hc, _⟩ := h.bool_at (k := j) (by omega)
    injection e with e
    subst e
    rw [List.getElem?_map, List.getElem?_eq_getElem hj] at hu
    simp only [Option.map_some, Option.some.injEq] at hu
    subst hu
    have hadd : (⟨b, o, none⟩ : Addr).add j = ⟨b, o + j, none⟩ := by unfold Addr.add; simp
    rw [hadd]; exact hc
theorem notes64 {w : World} {lo hi : Nat} {A : Option Addr} {n c : Nat} {l : List Note} (h : Sl noteR w lo hi A n c l) : ∀ x, x ∈ l → I64 x.1 ∧ I64 x.2.1 ∧ I64 x.2.2 := by
  intro x hx
  obtain ⟨i, hi, rfl⟩ := List.getElem_of_mem hx
  obtain ⟨_, _, a, b, c, _, _, _, e, i1, i2, i3, _⟩ := h.note_at (k := i) (by have := h.lenEq; omega)
  rw [e]
  exact ⟨i1, i2, i3⟩
theorem fr_below' {a b c d : World} {k : Nat} (h : Below a.heap.size a b) (h2 : Below b.heap.size b c) (h3 : Fr [k] c d) (hk : a.heap.size ≤ k) (hz : a.heap.size ≤ b.heap.size) : Below a.heap.size a d := by
  have h4 := below_tr h (h2.mono hz)
  exact ⟨h3.os.trans h4.os, h3.tape.trans h4.tape, h3.output.trans h4.output, Nat.le_trans h4.size h3.size, fun q hq => (h3.block q (Nat.lt_of_lt_of_le hq h4.size) (fun hm => by rw [List.mem_singleton.1 hm] at hq; omega)).trans (h4.block q hq)⟩
/-- Seven cells of a machine's struct. -/
structure VC (w : World) (X : Nat) (v0 v1 v2 v3 v4 v5 v6 : Value) : Prop where
  c0 : w.cell? ⟨X, 0, none⟩ = some v0
  c1 : w.cell? ⟨X, 1, none⟩ = some v1
  c2 : w.cell? ⟨X, 2, none⟩ = some v2
  c3 : w.cell? ⟨X, 3, none⟩ = some v3
  c4 : w.cell? ⟨X, 4, none⟩ = some v4
  c5 : w.cell? ⟨X, 5, none⟩ = some v5
  c6 : w.cell? ⟨X, 6, none⟩ = some v6
  fz : ∀ o, w.frozen? ⟨X, o, none⟩ = false
theorem VC.of {w : World} {X : Nat} {v0 v1 v2 v3 v4 v5 v6 : Value} {t : TypeId} (h : w.heap[X]? = some (.cells #[v0, v1, v2, v3, v4, v5, v6] t)) : VC w X v0 v1 v2 v3 v4 v5 v6 :=
  ⟨cell_of_row w X 0 _ _ _ h, cell_of_row w X 1 _ _ _ h, cell_of_row w X 2 _ _ _ h, cell_of_row w X 3 _ _ _ h, cell_of_row w X 4 _ _ _ h, cell_of_row w X 5 _ _ _ h, cell_of_row w X 6 _ _ _ h, blk_frozen h⟩
theorem sl_ints64 {w : World} {lo hi : Nat} {A : Option Addr} {n c : Nat} {l : List Int} (h : Sl intR w lo hi A n c l) : ∀ x, x ∈ l → I64 x := by
  intro x hx
  obtain ⟨i, hi, rfl⟩ := List.getElem_of_mem hx
  obtain ⟨b, o, _, _, _, _, h1⟩ := h.int_at (k := i) (by have := h.lenEq; omega)
  exact h1
theorem FC.set3 {w : World} {X : Nat} {v0 v1 v2 v3 v4 v5 v6 v7 v8 v9 v10 : Value} (h : FC w X v0 v1 v2 v3 v4 v5 v6 v7 v8 v9 v10) (u : Value) : FC (w.setCell ⟨X, 3, none⟩ u) X v0 v1 v2 u v4 v5 v6 v7 v8 v9 v10 := by
  obtain ⟨h0, h1, h2, h3, h4, h5, h6, h7, h8, h9, h10⟩ := h
  refine ⟨?_, ?_, ?_, ?_, ?_, ?_, ?_, ?_, ?_, ?_, ?_⟩ <;> simp [go_sem, h0, h1, h2, h3, h4, h5, h6, h7, h8, h9, h10]
theorem FC.set4 {w : World} {X : Nat} {v0 v1 v2 v3 v4 v5 v6 v7 v8 v9 v10 : Value} (h : FC w X v0 v1 v2 v3 v4 v5 v6 v7 v8 v9 v10) (u : Value) : FC (w.setCell ⟨X, 4, none⟩ u) X v0 v1 v2 v3 u v5 v6 v7 v8 v9 v10 := by
  obtain ⟨h0, h1, h2, h3, h4, h5, h6, h7, h8, h9, h10⟩ := h
  refine ⟨?_, ?_, ?_, ?_, ?_, ?_, ?_, ?_, ?_, ?_, ?_⟩ <;> simp [go_sem, h0, h1, h2, h3, h4, h5, h6, h7, h8, h9, h10]
theorem FC.set5 {w : World} {X : Nat} {v0 v1 v2 v3 v4 v5 v6 v7 v8 v9 v10 : Value} (h : FC w X v0 v1 v2 v3 v4 v5 v6 v7 v8 v9 v10) (u : Value) : FC (w.setCell ⟨X, 5, none⟩ u) X v0 v1 v2 v3 v4 u v6 v7 v8 v9 v10 := by
  obtain ⟨h0, h1, h2, h3, h4, h5, h6, h7, h8, h9, h10⟩ := h
  refine ⟨?_, ?_, ?_, ?_, ?_, ?_, ?_, ?_, ?_, ?_, ?_⟩ <;> simp [go_sem, h0, h1, h2, h3, h4, h5, h6, h7, h8, h9, h10]
theorem FC.below {w w' : World} {X : Nat} {v0 v1 v2 v3 v4 v5 v6 v7 v8 v9 v10 : Value} (h : FC w X v0 v1 v2 v3 v4 v5 v6 v7 v8 v9 v10) (hb : Below w.heap.size w w') : FC w' X v0 v1 v2 v3 v4 v5 v6 v7 v8 v9 v10 := h.keep (hb.block X h.lt)
theorem FC.of {w : World} {X : Nat} {v0 v1 v2 v3 v4 v5 v6 v7 v8 v9 v10 : Value} {t : TypeId} (h : w.heap[X]? = some (.cells #[v0, v1, v2, v3, v4, v5, v6, v7, v8, v9, v10] t)) : FC w X v0 v1 v2 v3 v4 v5 v6 v7 v8 v9 v10 := by
  obtain ⟨h0, h1, h2, h3, h4, h5, h6, h7, h8, h9, h10⟩ := ele_cells h
  exact ⟨h0, h1, h2, h3, h4, h5, h6, h7, h8, h9, h10⟩
/-- A machine's struct is told in new memory. -/
def RetVl (v : Vm) (w : World) (e : Ending) (w' : World) : Prop :=
  ∃ A0 n0 c0 A1 n1 c1 A6 n6 c6, e = .returned (.agg #[.slice A0 n0 c0, .slice A1 n1 c1, .int .i64 v.2.2.1, .int .i64 v.2.2.2.1, .int .i64 v.2.2.2.2.1, .int .i64 v.2.2.2.2.2.1, .slice A6 n6 c6]) ∧ Sl FrameR w' w.heap.size w'.heap.size A0 n0 c0 v.1 ∧ Sl intR w' w.heap.size w'.heap.size A1 n1 c1 v.2.1 ∧ Sl noteR w' w.heap.size w'.heap.size A6 n6 c6 v.2.2.2.2.2.2 ∧ Below w.heap.size w w'
set_option maxHeartbeats 16000000 in
theorem specL8Own (w : World) (A0 : Option Addr) (n0 c0 : Nat) (fs : List Frame) (h0 : Sl FrameR w 0 w.heap.size A0 n0 c0 fs) (A1 : Option Addr) (n1 c1 : Nat) (tr : List Int) (h1 : Sl intR w 0 w.heap.size A1 n1 c1 tr) (x2 x3 x4 x5 : Int) (A6 : Option Addr) (n6 c6 : Nat) (ns : List Note) (h6 : Sl noteR w 0 w.heap.size A6 n6 c6 ns)
    (z0 : n0 ≤ 1000000) (zf : ∀ f, f ∈ fs → (fPile f).length ≤ 1000000 ∧ f.2.2.2.2.1.length ≤ 1000000 ∧ f.2.2.2.2.2.1.length ≤ 1000000) (z1 : n1 ≤ 1000000) (z6 : n6 ≤ 1000000) :
    Calls Tryz.prog 22 #[.agg #[.slice A0 n0 c0, .slice A1 n1 c1, .int .i64 x2, .int .i64 x3, .int .i64 x4, .int .i64 x5, .slice A6 n6 c6]] w (RetVl (fs, tr, x2, x3, x4, x5, ns) w) := by
  obtain ⟨inf, hif, hz0, hz1, hz2⟩ := info_parts Tryz.infoNote
  obtain ⟨inb, hib, hzb0, hzb1, hzb2⟩ := info_parts Tryz.infoBool
  obtain ⟨inF, hiF, hzF0, hzF1, hzF2⟩ := info_parts Tryz.infoFrameG
  go_enter Tryz.func22, Tryz.ntmps22
  go_upto_region 2 with fail
  obtain ⟨W, hW⟩ : ∃ W, W = ((w.alloc (.cells #[.slice A0 n0 c0, .slice A1 n1 c1, .int .i64 x2, .int .i64 x3, .int .i64 x4, .int .i64 x5, .slice A6 n6 c6] 30)).alloc (.cells #[.slice none 0 0, .slice none 0 0, .int .i64 0, .int .i64 0, .int .i64 0, .int .i64 0, .slice none 0 0] 30)).alloc (.cells #[.slice A0 n0 c0, .slice A1 n1 c1, .int .i64 x2, .int .i64 x3, .int .i64 x4, .int .i64 x5, .slice A6 n6 c6] 30) := ⟨_, rfl⟩
  have hbW : Below w.heap.size w W := by rw [hW]; exact belA
  have kA : W.heap[w.heap.size]? = some (.cells #[.slice A0 n0 c0, .slice A1 n1 c1, .int .i64 x2, .int .i64 x3, .int .i64 x4, .int .i64 x5, .slice A6 n6 c6] 30) := by rw [hW]; exact (alloc_lt (by simp; omega)).trans ((alloc_lt (by simp)).trans (alloc_new' rfl))
  have kR : W.heap[w.heap.size + 1]? = some (.cells #[.slice none 0 0, .slice none 0 0, .int .i64 0, .int .i64 0, .int .i64 0, .int .i64 0, .slice none 0 0] 30) := by rw [hW]; exact (alloc_lt (by simp)).trans (alloc_new' (by simp))
  have kO : W.heap[w.heap.size + 1 + 1]? = some (.cells #[.slice A0 n0 c0, .slice A1 n1 c1, .int .i64 x2, .int .i64 x3, .int .i64 x4, .int .i64 x5, .slice A6 n6 c6] 30) := by rw [hW]; exact alloc_new' (by simp)
  rw [← hW]
  clear hW
  obtain ⟨Rb, hRb⟩ : ∃ R, w.heap.size + 1 = R := ⟨_, rfl⟩
  rw [hRb] at kR kO ⊢
  obtain ⟨Ob, hOb⟩ : ∃ R, Rb + 1 = R := ⟨_, rfl⟩
  rw [hOb] at kO ⊢
  obtain ⟨Ab, hAb⟩ : ∃ R, w.heap.size = R := ⟨_, rfl⟩
  have hA1 : Ab < Rb := by omega
  have hA2 : Rb < Ob := by omega
  have hA3 : w.heap.size ≤ Ab := by omega
  have hA4 : Ob < W.heap.size := blk_lt kO
  have hzW := hbW.size
  rw [show w.heap.size = Ab from hAb] at kA ⊢
  have hbW' := hbW
  clear hRb hOb
  have vA := VC.of kA
  have vR := VC.of kR
  have vO := VC.of kO
  have g1 := h1.next hbW
  have g6 := h6.next hbW
  have g0 := h0.next hbW
  clear hAb kA kR kO hbW'
  have a1 := vA.c1
  have hAl : Ab < W.heap.size := by omega
  have p1 := vO.c1
  have pf := vO.fz 1
  go_wp2_with fail
  refine (specL1Own W 0 W.heap.size A1 n1 c1 tr g1 (Nat.le_refl _) (by omega)).mono ?_
  rintro e w2 ⟨v1, rfl, r1, b2⟩
  obtain ⟨B1, m1, d1, rfl⟩ := slice_form r1
  have z2 := b2.size
  have hO2 := below_cell b2 vO.c1
  have fO2 := below_frozen (p := ⟨Ob, 1, none⟩) b2 hA4 (vO.fz 1)
  have hOl2 : Ob < w2.heap.size := by omega
  have R1 := Lib.hid r1
  clear r1
  go_upto_region 3 with fail
  obtain ⟨W3, hW3⟩ : ∃ W3, W3 = w2.setCell ⟨Ob, 1, none⟩ (.slice B1 m1 d1) := ⟨_, rfl⟩
  have f3 : Fr [Ob] w2 W3 := by rw [hW3]; exact frcA
  have o1 : W3.cell? ⟨Ob, 1, none⟩ = some (.slice B1 m1 d1) := by rw [hW3]; simp [go_sem, hO2]
  have o0 : W3.cell? ⟨Ob, 0, none⟩ = some (.slice A0 n0 c0) := by rw [hW3]; simp [go_sem, below_cell b2 vO.c0]
  have o2 : W3.cell? ⟨Ob, 2, none⟩ = some (.int .i64 x2) := by rw [hW3]; simp [go_sem, below_cell b2 vO.c2]
  have o3 : W3.cell? ⟨Ob, 3, none⟩ = some (.int .i64 x3) := by rw [hW3]; simp [go_sem, below_cell b2 vO.c3]
  have o4 : W3.cell? ⟨Ob, 4, none⟩ = some (.int .i64 x4) := by rw [hW3]; simp [go_sem, below_cell b2 vO.c4]
  have o5 : W3.cell? ⟨Ob, 5, none⟩ = some (.int .i64 x5) := by rw [hW3]; simp [go_sem, below_cell b2 vO.c5]
  have o6 : W3.cell? ⟨Ob, 6, none⟩ = some (.slice A6 n6 c6) := by rw [hW3]; simp [go_sem, below_cell b2 vO.c6]
  have of : ∀ o, W3.frozen? ⟨Ob, o, none⟩ = false := fun o => by rw [hW3]; simp [go_sem, below_frozen (p := ⟨Ob, o, none⟩) b2 hA4 (vO.fz o)]
  have hb3 : Below w.heap.size w W3 := fr_below' hbW b2 f3 (by omega) hzW
  rw [← hW3]
  clear hW3 hO2 fO2 a1 p1 pf
  have a6 : W3.cell? ⟨Ab, 6, none⟩ = some (.slice A6 n6 c6) := cell_fr1 f3 (by simp; omega) (below_cell b2 vA.c6)
  have a0 : W3.cell? ⟨Ab, 0, none⟩ = some (.slice A0 n0 c0) := cell_fr1 f3 (by simp; omega) (below_cell b2 vA.c0)
  have z3 := f3.size
  have hA5 : Ab < W3.heap.size := by omega
  have hO5 : Ob < W3.heap.size := by omega
  have hs6 := src_notes ((h6.next hb3).below (show Below W3.heap.size W3 (W3.alloc (.cells #[] 97)) by exact belA) (Nat.le_refl _))
  have HS6 := Lib.hid hs6
  have HO := Lib.hid (And.intro o1 (And.intro o2 (And.intro o3 (And.intro o4 (And.intro o5 of)))))
  have HL6 := Lib.hid h6.lenEq
  clear o1 o2 o3 o4 o5 g1 g6 hs6
  have of6 := of 6
  go_wp2_with (at_builtin; refine wpList_append_src _ rfl _ _ 28 rfl W3.heap.size 97 inf (.agg #[.int .i64 0, .int .i64 0, .int .i64 0]) 3 24 Tryz.underlying28 hif hz0 hz1 hz2 rfl (by decide) (.slice (some ⟨W3.heap.size, 0, none⟩) 0 0) 0 [] rfl (World.ownsRow_made W3 #[] 0 (Nat.le_refl _) (by decide) (by simp)) A6 n6 c6 (encL noteV ns) rfl HS6.out (encL_one' (fun x u hu => by simp [noteV] at hu; rcases hu with rfl | rfl | rfl <;> rfl)) (by unfold maxLen; omega) (by omega) (by simp) ?_)
  intro v6 w4 hown hgr hat
  have b4 : Below W3.heap.size W3 w4 := (show Below W3.heap.size W3 (W3.alloc (.cells #[] 97)) by exact belA).grown hgr (by simp) (fun g hg => by simp [Value.ownBlock] at hg; omega)
  obtain ⟨B6, m6, d6, rfl⟩ := slice_form hown
  have R6 := Lib.hid hown
  have z4 := b4.size
  have k6 := below_cell b4 o6
  have k0 := below_cell b4 o0
  have ka0 := below_cell b4 a0
  have kf := below_frozen (p := ⟨Ob, 6, none⟩) b4 hO5 (of 6)
  have kf0 := below_frozen (p := ⟨Ob, 0, none⟩) b4 hO5 (of 0)
  have hOl4 : Ob < w4.heap.size := by omega
  have hAl4 : Ab < w4.heap.size := by omega
  clear hown hgr hat of6 of
  go_wp2_with fail
  obtain ⟨V0, hV0⟩ : ∃ V0, V0 = (w4.setCell ⟨Ob, 6, none⟩ (.slice B6 m6 d6)).setCell ⟨Ob, 0, none⟩ (.slice none 0 0) := ⟨_, rfl⟩
  have f0 : Fr [Ob] w4 V0 := by rw [hV0]; exact frcA
  have HOC0 := Lib.hid (show V0.cell? ⟨Ob, 1, none⟩ = some (.slice B1 m1 d1) ∧ V0.cell? ⟨Ob, 2, none⟩ = some (.int .i64 x2) ∧ V0.cell? ⟨Ob, 3, none⟩ = some (.int .i64 x3) ∧ V0.cell? ⟨Ob, 4, none⟩ = some (.int .i64 x4) ∧ V0.cell? ⟨Ob, 5, none⟩ = some (.int .i64 x5) ∧ V0.cell? ⟨Ob, 6, none⟩ = some (.slice B6 m6 d6) ∧ ∀ o, V0.frozen? ⟨Ob, o, none⟩ = false from by
    obtain ⟨e1, e2, e3, e4, e5, ef⟩ := HO.out
    have ef4 := fun o => below_frozen (p := ⟨Ob, o, none⟩) b4 hO5 (ef o)
    refine ⟨?_, ?_, ?_, ?_, ?_, ?_, fun o => ?_⟩ <;> rw [hV0] <;> simp [go_sem, below_cell b4 e1, below_cell b4 e2, below_cell b4 e3, below_cell b4 e4, below_cell b4 e5, k6, k0, ef4])
  have q00 : V0.cell? ⟨Ob, 0, none⟩ = some (.slice none 0 0) := by rw [hV0]; simp [go_sem, k0, k6]
  have z0' := f0.size
  have hbV : Below w.heap.size w V0 := fr_below' hb3 b4 f0 (by omega) (by have := hb3.size; omega)
  rw [← hV0]
  clear hV0 k6 k0 kf kf0 ka0 a6 a0 o0 o6
  have hOV : Ob < V0.heap.size := by omega
  have hwV := hbV.size
  go_loopw [20] (fun v wr => ∃ (k : Nat) (v0 : Value) (F : List Nat), k ≤ n0 ∧ v = .int .i64 k ∧ wr.cell? ⟨Ob, 0, none⟩ = some v0 ∧ Hid (OwnSl FrameR wr 74 F v0 (fs.take k)) ∧ (∀ q, q ∈ F → V0.heap.size ≤ q) ∧ Fr [Ob] V0 wr ∧ Hid (wr.cell? ⟨Ob, 1, none⟩ = some (.slice B1 m1 d1) ∧ wr.cell? ⟨Ob, 2, none⟩ = some (.int .i64 x2) ∧ wr.cell? ⟨Ob, 3, none⟩ = some (.int .i64 x3) ∧ wr.cell? ⟨Ob, 4, none⟩ = some (.int .i64 x4) ∧ wr.cell? ⟨Ob, 5, none⟩ = some (.int .i64 x5) ∧ wr.cell? ⟨Ob, 6, none⟩ = some (.slice B6 m6 d6) ∧ ∀ o, wr.frozen? ⟨Ob, o, none⟩ = false)) (fun v _ => n0 - (intOf v).toNat)
  case atStart => exact ⟨0, .slice none 0 0, [], Nat.zero_le _, rfl, q00, Lib.hid (OwnSl.nil_ ..), (fun _ h => by cases h), Fr.refl _ _, HOC0⟩
  case round =>
    obtain ⟨k, v0, F, hk, rfl, hv0, hF, hFb, hfr, HOC⟩ := hrel
    have hbr : Below w.heap.size w wr := fr_below' hbV (Below.refl _ _) hfr (by omega) hwV
    have hzr := hfr.size
    by_cases hlt : k < n0
    · have hltI : (k : Int) < (n0 : Int) := by omega
      obtain ⟨b, o, x0, x1, xx2, A3, n3, c3, s3, A4, n4, c4, s4, A5, n5, c5, s5, x6, x7, x8, x9, y10, eA, _, hbw, hfk, i0, i1, i2, k3, k4, k5, i6, i7, i8, i9, u0, u1, u2, u3, u4, u5, u6, u7, u8, u9, u10⟩ := Frame_at (h0.next hbr) hlt
      subst eA
      have hzk := zf _ (List.getElem_mem (show k < fs.length by have := h0.lenEq; omega))
      rw [hfk] at hzk
      have l3 : n3 ≤ 1000000 := by have := k3.lenEq; have := hzk.1; simp only [fPile] at this; omega
      have l4 : n4 ≤ 1000000 := by have := k4.lenEq; have := hzk.2.1; simp only at this; omega
      have l5 : n5 ≤ 1000000 := by have := k5.lenEq; have := hzk.2.2; simp only at this; omega
      have HFK := Lib.hid hfk
      clear hfk hzk
      go_upto_region 8 with fail
      obtain ⟨W7, hW7⟩ : ∃ W7, W7 = wr.alloc (.cells #[.int .i64 x0, .int .i64 x1, .int .i64 xx2, .slice A3 n3 c3, .slice A4 n4 c4, .slice A5 n5 c5, .int .i64 x6, .int .i64 x7, .int .i64 x8, .int .i64 x9, .bool y10] 74) := ⟨_, rfl⟩
      have b7 : Below wr.heap.size wr W7 := by rw [hW7]; exact belA
      have kX : W7.heap[wr.heap.size]? = some (.cells #[.int .i64 x0, .int .i64 x1, .int .i64 xx2, .slice A3 n3 c3, .slice A4 n4 c4, .slice A5 n5 c5, .int .i64 x6, .int .i64 x7, .int .i64 x8, .int .i64 x9, .bool y10] 74) := by rw [hW7]; exact alloc_new' rfl
      rw [← hW7]
      obtain ⟨X, hX⟩ : ∃ X, wr.heap.size = X := ⟨_, rfl⟩
      have hXV : V0.heap.size ≤ X := by omega
      have hX7 : X < W7.heap.size := by rw [← hX, hW7]; simp
      rw [hX] at kX ⊢
      have fc7 := FC.of kX
      have fz7 := blk_frozen kX
      have e3 := fc7.c3
      clear hW7 u0 u1 u2 u3 u4 u5 u6 u7 u8 u9 u10 kX
      go_wp2_with fail
      refine (specL1Own W7 0 W7.heap.size A3 n3 c3 s3 (k3.next b7) (Nat.le_refl _) (by omega)).mono ?_
      rintro e w8 ⟨v3, rfl, r3, b8⟩
      obtain ⟨B3, m3, d3, rfl⟩ := slice_form r3
      have z7 := b7.size
      have z8 := b8.size
      have fc8 := fc7.below b8
      have e3' := fc8.c3
      have fz8 := below_frozen (p := ⟨X, 3, none⟩) b8 hX7 (fz7 3)
      have hX8 : X < w8.heap.size := by omega
      have R3 := Lib.hid r3
      clear r3 e3
      go_upto_region 9 with fail
      obtain ⟨W9, hW9⟩ : ∃ W, W = w8.setCell ⟨X, 3, none⟩ (.slice B3 m3 d3) := ⟨_, rfl⟩
      have f9 : Fr [X] w8 W9 := by rw [hW9]; exact frcA
      have fc9 : FC W9 X _ _ _ _ _ _ _ _ _ _ _ := hW9 ▸ fc8.set3 (.slice B3 m3 d3)
      have fzz9 : ∀ o, W9.frozen? ⟨X, o, none⟩ = false := fun o => by rw [hW9]; simp [go_sem, below_frozen (p := ⟨X, o, none⟩) b8 hX7 (fz7 o)]
      have z9 := f9.size
      have b9 : Below wr.heap.size wr W9 := fr_below' b7 b8 f9 (by omega) z7
      rw [← hW9]
      clear hW9 e3' fz8 fc8 fc7
      have e4 := fc9.c4
      have hX9 : X < W9.heap.size := by omega
      go_wp2_with fail
      refine (specL1Own W9 0 W9.heap.size A4 n4 c4 s4 (k4.next b9) (Nat.le_refl _) (by omega)).mono ?_
      rintro e w10 ⟨v4, rfl, r4, b10⟩
      obtain ⟨B4, m4, d4, rfl⟩ := slice_form r4
      have z10 := b10.size
      have fc10 := fc9.below b10
      have e4' := fc10.c4
      have fz10 := below_frozen (p := ⟨X, 4, none⟩) b10 hX9 (fzz9 4)
      have hX10 : X < w10.heap.size := by omega
      have R4 := Lib.hid r4
      clear r4 e4
      go_upto_region 10 with fail
      obtain ⟨Wb, hWb⟩ : ∃ W, W = w10.setCell ⟨X, 4, none⟩ (.slice B4 m4 d4) := ⟨_, rfl⟩
      have fb : Fr [X] w10 Wb := by rw [hWb]; exact frcA
      have fcb : FC Wb X _ _ _ _ _ _ _ _ _ _ _ := hWb ▸ fc10.set4 (.slice B4 m4 d4)
      have fzb : ∀ o, Wb.frozen? ⟨X, o, none⟩ = false := fun o => by rw [hWb]; simp [go_sem, below_frozen (p := ⟨X, o, none⟩) b10 hX9 (fzz9 o)]
      have zb := fb.size
      have bb : Below wr.heap.size wr Wb := fr_below' b9 b10 fb (by omega) b9.size
      rw [← hWb]
      clear hWb e4' fz10 fc10 fc9 fzz9
      have e5 := fcb.c5
      have hXb : X < Wb.heap.size := by omega
      have hs5 := Lib.hid (src_bools ((k5.next bb).below (show Below Wb.heap.size Wb (Wb.alloc (.cells #[] 4)) by exact belA) (Nat.le_refl _)))
      have L5 := Lib.hid k5.lenEq
      have kf5 := fzb 5
      go_wp2_with (at_builtin; refine wpList_append_src _ rfl _ _ 72 rfl Wb.heap.size 4 inb (.bool false) 1 1 Tryz.underlying72 hib hzb0 hzb1 hzb2 rfl (by decide) (.slice (some ⟨Wb.heap.size, 0, none⟩) 0 0) 0 [] rfl (World.ownsRow_made Wb #[] 0 (Nat.le_refl _) (by decide) (by simp)) A5 n5 c5 (s5.map Value.bool) rfl hs5.out (by intro u hu; obtain ⟨q, _, rfl⟩ := List.mem_map.1 hu; rfl) (by unfold maxLen; omega) (by omega) (by simp) ?_)
      intro v5 w12 hown hgr hat
      have b12 : Below Wb.heap.size Wb w12 := (show Below Wb.heap.size Wb (Wb.alloc (.cells #[] 4)) by exact belA).grown hgr (by simp) (fun g hg => by simp [Value.ownBlock] at hg; omega)
      obtain ⟨B5, m5, d5, rfl⟩ := slice_form hown
      have R5 := Lib.hid hown
      have z12 := b12.size
      have fc12 := fcb.below b12
      have e5' := fc12.c5
      have fz12 := below_frozen (p := ⟨X, 5, none⟩) b12 hXb (fzb 5)
      have hX12 : X < w12.heap.size := by omega
      clear hown hgr hat e5 kf5
      go_upto_region 11 with fail
      obtain ⟨Wd, hWd⟩ : ∃ W, W = w12.setCell ⟨X, 5, none⟩ (.slice B5 m5 d5) := ⟨_, rfl⟩
      have fd : Fr [X] w12 Wd := by rw [hWd]; exact frcA
      have fcd : FC Wd X _ _ _ _ _ _ _ _ _ _ _ := hWd ▸ fc12.set5 (.slice B5 m5 d5)
      have zd := fd.size
      have bd : Below wr.heap.size wr Wd := fr_below' bb b12 fd (by omega) bb.size
      rw [← hWd]
      clear hWd e5' fz12 fc12 fcb fzb
      have hFk : Frame := (x0, x1, xx2, s3, s4, s5, x6, x7, x8, x9, y10)
      have r3 := R3.out
      have r4 := R4.out
      have r5 : w12.ownsRow Wb.heap.size 4 1 (.slice B5 m5 d5) s5.length (s5.map Value.bool) := by
        have h9 := R5.out
        rw [← L5.out] at h9
        exact h9
      have t3 : ∀ q, q ∈ (Value.slice B3 m3 d3).ownBlock.toList → W7.heap.size ≤ q ∧ q < w8.heap.size := fun q hq => World.ownsRow.lt r3 q (by simpa using hq)
      have t4 : ∀ q, q ∈ (Value.slice B4 m4 d4).ownBlock.toList → W9.heap.size ≤ q ∧ q < w10.heap.size := fun q hq => World.ownsRow.lt r4 q (by simpa using hq)
      have t5 : ∀ q, q ∈ (Value.slice B5 m5 d5).ownBlock.toList → Wb.heap.size ≤ q ∧ q < w12.heap.size := fun q hq => World.ownsRow.lt r5 q (by simpa using hq)
      have nX : ∀ (G : List Nat), (∀ q, q ∈ G → X < q) → ∀ q, q ∈ G → q ∉ [X] := fun G hG q hq hm => by have := hG q hq; rw [List.mem_singleton.1 hm] at this; omega
      have o3 := ((((own_ints r3 (fun q hq => sl_ints64 k3 q hq)).fr f9 (nX _ (fun q hq => by have := t3 q hq; omega))).below b10).fr fb (nX _ (fun q hq => by have := t3 q hq; omega))).below b12 |>.fr fd (nX _ (fun q hq => by have := t3 q hq; omega))
      have o4 := (((own_ints r4 (fun q hq => sl_ints64 k4 q hq)).fr fb (nX _ (fun q hq => by have := t4 q hq; omega))).below b12).fr fd (nX _ (fun q hq => by have := t4 q hq; omega))
      have o5 := (own_bools r5).fr fd (nX _ (fun q hq => by have := t5 q hq; omega))
      have hnd : ((Value.slice B3 m3 d3).ownBlock.toList ++ ((Value.slice B4 m4 d4).ownBlock.toList ++ (Value.slice B5 m5 d5).ownBlock.toList)).Nodup := by
        rw [List.nodup_append, List.nodup_append]
        refine ⟨o3.nodup, ⟨o4.nodup, o5.nodup, fun a ha b' hb e => ?_⟩, fun a ha b' hb e => ?_⟩
        · subst e; have := t4 a ha; have := t5 a hb; omega
        · subst e
          have := t3 a ha
          rcases List.mem_append.1 hb with hb | hb
          · have := t4 a hb; omega
          · have := t5 a hb; omega
      have hX11 := own_frCells (f := (x0, x1, xx2, s3, s4, s5, x6, x7, x8, x9, y10)) o3 o4 o5 ⟨i0, i1, i2, i6, i7, i8, i9⟩ hnd
      have hFx : ∀ q, q ∈ (Value.slice B3 m3 d3).ownBlock.toList ++ ((Value.slice B4 m4 d4).ownBlock.toList ++ (Value.slice B5 m5 d5).ownBlock.toList) → X < q := fun q hq => by
        rcases List.mem_append.1 hq with hq | hq
        · have := t3 q hq; omega
        · rcases List.mem_append.1 hq with hq | hq
          · have := t4 q hq; omega
          · have := t5 q hq; omega
      have HFX := Lib.hid hFx
      have HX11 := Lib.hid hX11
      have hv0d := below_cell bd hv0
      have hFlt : ∀ q, q ∈ F → q < wr.heap.size := hF.out.lt
      have hFd := (hF.out.below bd).below (show Below Wd.heap.size Wd (Wd.alloc (.cells #[.int .i64 x0, .int .i64 x1, .int .i64 xx2, .slice B3 m3 d3, .slice B4 m4 d4, .slice B5 m5 d5, .int .i64 x6, .int .i64 x7, .int .i64 x8, .int .i64 x9, .bool y10] 74)) by exact belA)
      obtain ⟨xs, hxs, grow⟩ := hFd.grow
      have HXS := Lib.hid hxs
      have GROW := Lib.hid grow
      have hb0 := hFd.ownB
      have HB0 := Lib.hid hb0
      have hlk : (fs.take k).length ≤ 1000000 := by rw [List.length_take]; omega
      have hzd := bd.size
      have hOd : Ob < Wd.heap.size := by omega
      have hXd : X < Wd.heap.size := by omega
      obtain ⟨y0, y1, y2, y3, y4, y5, y6, y7, y8, y9, y10'⟩ := fcd
      have HOCd := Lib.hid (show Wd.cell? ⟨Ob, 1, none⟩ = some (.slice B1 m1 d1) ∧ Wd.cell? ⟨Ob, 2, none⟩ = some (.int .i64 x2) ∧ Wd.cell? ⟨Ob, 3, none⟩ = some (.int .i64 x3) ∧ Wd.cell? ⟨Ob, 4, none⟩ = some (.int .i64 x4) ∧ Wd.cell? ⟨Ob, 5, none⟩ = some (.int .i64 x5) ∧ Wd.cell? ⟨Ob, 6, none⟩ = some (.slice B6 m6 d6) ∧ ∀ o, Wd.frozen? ⟨Ob, o, none⟩ = false from by
        obtain ⟨e1, e2, e3, e4, e5, e6, ef⟩ := HOC.out
        exact ⟨below_cell bd e1, below_cell bd e2, below_cell bd e3, below_cell bd e4, below_cell bd e5, below_cell bd e6, fun o => below_frozen (p := ⟨Ob, o, none⟩) bd (show Ob < wr.heap.size by omega) (ef o)⟩)
      clear r3 r4 r5 o3 o4 o5 hnd hX11 hFx hxs grow hb0 hFd hFk k3 k4 k5 f9 fb fd b7 b8 b9 b10 b12 t3 t4 t5 nX
      go_wp2_with (at_builtin; refine wpList_append_own_at _ rfl _ _ 27 rfl 0 74 inF (.agg #[.int .i64 0, .int .i64 0, .int .i64 0, .slice none 0 0, .slice none 0 0, .slice none 0 0, .int .i64 0, .int .i64 0, .int .i64 0, .int .i64 0, .bool false]) 11 136 Tryz.underlying27 hiF hzF0 hzF1 hzF2 rfl (by decide) v0 (fs.take k).length xs rfl HXS.out ⟨Wd.heap.size, 0, none⟩ 1 1 [.int .i64 x0, .int .i64 x1, .int .i64 xx2, .slice B3 m3 d3, .slice B4 m4 d4, .slice B5 m5 d5, .int .i64 x6, .int .i64 x7, .int .i64 x8, .int .i64 x9, .bool y10] rfl rfl (cell_newL [.int .i64 x0, .int .i64 x1, .int .i64 xx2, .slice B3 m3 d3, .slice B4 m4 d4, .slice B5 m5 d5, .int .i64 x6, .int .i64 x7, .int .i64 x8, .int .i64 x9, .bool y10] _ rfl) (fun u hu => frCells_one (x0, x1, xx2, s3, s4, s5, x6, x7, x8, x9, y10) _ _ _ _ _ _ _ _ _ u hu) (by unfold maxLen; omega) (by omega) (Nat.zero_le _) ?_)
      intro v' wk hown hgr hnil hblk
      obtain ⟨Bv, mv, dv, rfl⟩ := slice_form hown
      have hvO : v0.ownBlock ≠ some Ob := fun e => by have := hFb Ob (HB0.out Ob e); omega
      have kO : wk.heap[Ob]? = Wd.heap[Ob]? := (hgr.block Ob (by simp; omega) (fun e => hvO e.symm)).trans (alloc_lt hOd)
      have cO := fun o v (h : Wd.cell? ⟨Ob, o, none⟩ = some v) => (World.cell?_of_block (a := ⟨Ob, o, none⟩) kO).trans h
      have hv0k := cO _ _ hv0d
      have hOkl : Ob < wk.heap.size := by have := hgr.size; simp at this; omega
      obtain ⟨e1, e2, e3, e4, e5, e6, ef⟩ := HOCd.out
      have hfk : ∀ o, wk.frozen? ⟨Ob, o, none⟩ = false := fun o => (World.frozen?_of_block (a := ⟨Ob, o, none⟩) kO).trans (ef o)
      have hfk0 := hfk 0
      obtain ⟨F', hF', hF2⟩ := GROW.out wk (.slice Bv mv dv) [.int .i64 x0, .int .i64 x1, .int .i64 xx2, .slice B3 m3 d3, .slice B4 m4 d4, .slice B5 m5 d5, .int .i64 x6, .int .i64 x7, .int .i64 x8, .int .i64 x9, .bool y10] (x0, x1, xx2, s3, s4, s5, x6, x7, x8, x9, y10) ((Value.slice B3 m3 d3).ownBlock.toList ++ ((Value.slice B4 m4 d4).ownBlock.toList ++ (Value.slice B5 m5 d5).ownBlock.toList)) (by rw [List.length_take]; exact hown) hgr (by rw [size_alloc]; exact hblk) (FrameR.ownKeep (fun q hq => alloc_lt (FrameR.ownLt HX11.out q hq)) HX11.out) (fun q hq hm => by have := HFX.out q hq; have := hFlt q hm; omega)
      have hF2' : ∀ q, q ∈ F' → V0.heap.size ≤ q := fun q hq => by
        rcases hF2 q hq with h | h | h
        · exact hFb q h
        · have := HFX.out q h; omega
        · simp at h; omega
      have fe : Fr [Ob] wk (wk.setCell ⟨Ob, 0, none⟩ (.slice Bv mv dv)) := by exact frcA
      have hOe : OwnSl FrameR (wk.setCell ⟨Ob, 0, none⟩ (.slice Bv mv dv)) 74 F' (.slice Bv mv dv) (fs.take (k + 1)) := by
        rw [List.take_succ_eq_append_getElem (show k < fs.length by have := h0.lenEq; omega), HFK.out]
        exact hF'.fr fe (fun q hq hm => by have := hF2' q hq; rw [List.mem_singleton.1 hm] at this; omega)
      have hfe : Fr [Ob] V0 (wk.setCell ⟨Ob, 0, none⟩ (.slice Bv mv dv)) := by
        have hq : Fr [Ob] V0 wk := by
          have h1 := hfr.trans (Fr.of_below bd)
          refine ⟨hgr.os.trans h1.os, hgr.tape.trans h1.tape, hgr.output.trans h1.output, by have h2 := hgr.size; simp at h2; omega, fun q hq hm => ?_⟩
          refine (hgr.block q (by simp; omega) (fun e => by have := hFb q (HB0.out q e.symm); omega)).trans ((alloc_lt (by omega)).trans (h1.block q hq hm))
        exact hq.trans fe
      have HOE := Lib.hid hOe
      have HOCe := Lib.hid (show (wk.setCell ⟨Ob, 0, none⟩ (.slice Bv mv dv)).cell? ⟨Ob, 1, none⟩ = some (.slice B1 m1 d1) ∧ (wk.setCell ⟨Ob, 0, none⟩ (.slice Bv mv dv)).cell? ⟨Ob, 2, none⟩ = some (.int .i64 x2) ∧ (wk.setCell ⟨Ob, 0, none⟩ (.slice Bv mv dv)).cell? ⟨Ob, 3, none⟩ = some (.int .i64 x3) ∧ (wk.setCell ⟨Ob, 0, none⟩ (.slice Bv mv dv)).cell? ⟨Ob, 4, none⟩ = some (.int .i64 x4) ∧ (wk.setCell ⟨Ob, 0, none⟩ (.slice Bv mv dv)).cell? ⟨Ob, 5, none⟩ = some (.int .i64 x5) ∧ (wk.setCell ⟨Ob, 0, none⟩ (.slice Bv mv dv)).cell? ⟨Ob, 6, none⟩ = some (.slice B6 m6 d6) ∧ ∀ o, (wk.setCell ⟨Ob, 0, none⟩ (.slice Bv mv dv)).frozen? ⟨Ob, o, none⟩ = false from by
        refine ⟨?_, ?_, ?_, ?_, ?_, ?_, fun o => ?_⟩ <;> simp [go_sem, cO _ _ e1, cO _ _ e2, cO _ _ e3, cO _ _ e4, cO _ _ e5, cO _ _ e6, hfk, hv0k])
      have hce : (wk.setCell ⟨Ob, 0, none⟩ (.slice Bv mv dv)).cell? ⟨Ob, 0, none⟩ = some (.slice Bv mv dv) := by simp [go_sem, hv0k]
      have HCE := Lib.hid hce
      clear hown hgr hnil hblk hF' hF2 hOe hce fe e1 e2 e3 e4 e5 e6 ef cO kO hfk
      go_wp2_with fail
      go_roundw
      case rel => exact ⟨k + 1, _, F', by omega, by go_num, HCE.out, HOE, hF2', hfe, HOCe⟩
      case measure => simp [intOf]; omega
    · have hkn : k = n0 := by omega
      have hzw : wr.heap.size = wr.heap.size := rfl
      have hF9 := hF.out
      rw [List.take_of_length_le (by have := h0.lenEq; omega)] at hF9
      obtain ⟨Bv, mv, dv, rfl, hmv⟩ := hF9.form
      clear hmv
      obtain ⟨e1, e2, e3, e4, e5, e6, ef⟩ := HOC.out
      have cR := fun o v (h : W.cell? ⟨Rb, o, none⟩ = some v) => cell_fr1 hfr (by simp; omega) (cell_fr1 f0 (by simp; omega) (below_cell b4 (cell_fr1 f3 (by simp; omega) (below_cell b2 h))))
      have r0 := cR _ _ vR.c0
      have r1 := cR _ _ vR.c1
      have r2 := cR _ _ vR.c2
      have r3 := cR _ _ vR.c3
      have r4 := cR _ _ vR.c4
      have r5 := cR _ _ vR.c5
      have r6 := cR _ _ vR.c6
      have rfr : ∀ o, wr.frozen? ⟨Rb, o, none⟩ = false := fun o => by
        have h1 := below_frozen (p := ⟨Rb, o, none⟩) b2 (show Rb < W.heap.size by omega) (vR.fz o)
        have h2 := (World.frozen?_of_block (a := ⟨Rb, o, none⟩) (f3.block Rb (by omega) (by simp; omega))).trans h1
        have h3 := below_frozen (p := ⟨Rb, o, none⟩) b4 (show Rb < W3.heap.size by omega) h2
        have h4 := (World.frozen?_of_block (a := ⟨Rb, o, none⟩) (f0.block Rb (by omega) (by simp; omega))).trans h3
        exact (World.frozen?_of_block (a := ⟨Rb, o, none⟩) (hfr.block Rb (by omega) (by simp; omega))).trans h4
      have hRl : Rb < wr.heap.size := by omega
      have nO : ∀ (G : List Nat), (∀ q, q ∈ G → Ob < q) → ∀ q, q ∈ G → q ∉ [Ob] := fun G hG q hq hm => by have := hG q hq; rw [List.mem_singleton.1 hm] at this; omega
      have t1 : ∀ q, q ∈ (Value.slice B1 m1 d1).ownBlock.toList → Ob < q := fun q hq => by have := (World.ownsRow.lt R1.out q (by simpa using hq)).1; omega
      have r6n : w4.ownsRow W3.heap.size 97 3 (.slice B6 m6 d6) ns.length (encL noteV ns) := by
        have h9 := R6.out
        rw [← HL6.out] at h9
        simpa using h9
      have t6 : ∀ q, q ∈ (Value.slice B6 m6 d6).ownBlock.toList → Ob < q := fun q hq => by have := (World.ownsRow.lt r6n q (by simpa using hq)).1; omega
      have o1 := ((((own_ints R1.out (fun q hq => sl_ints64 h1 q hq)).fr f3 (nO _ t1)).below b4).fr f0 (nO _ t1)).fr hfr (nO _ t1)
      have o6 := ((own_flat (R := noteR) r6n (fun q hq => noteR_own (notes64 h6 q hq))).fr f0 (nO _ t6)).fr hfr (nO _ t6)
      have O0 := Lib.hid hF9
      have O1 := Lib.hid o1
      have O6 := Lib.hid o6
      have hOl : Ob < wr.heap.size := by omega
      have hFr2 : ∀ q, q ∈ F → Ob < q := fun q hq => by have := hFb q hq; omega
      clear hF9 o1 o6 r6n cR HOC hF vA vR vO
      go_wp2_with fail
      refine bodyPost_ret (v := .agg #[.slice Bv mv dv, .slice B1 m1 d1, .int .i64 x2, .int .i64 x3, .int .i64 x4, .int .i64 x5, .slice B6 m6 d6]) (by simp [results, Tryz.results22, go_sem, r0, r1, r2, r3, r4, r5, r6, rfr, hRl]) rfl ?_
      have hfR : Fr [Rb] wr (((((((wr.setCell ⟨Rb, 0, none⟩ (.slice Bv mv dv)).setCell ⟨Rb, 1, none⟩ (.slice B1 m1 d1)).setCell ⟨Rb, 2, none⟩ (.int .i64 x2)).setCell ⟨Rb, 3, none⟩ (.int .i64 x3)).setCell ⟨Rb, 4, none⟩ (.int .i64 x4)).setCell ⟨Rb, 5, none⟩ (.int .i64 x5)).setCell ⟨Rb, 6, none⟩ (.slice B6 m6 d6)) := by exact frcA
      have nR : ∀ (G : List Nat), (∀ q, q ∈ G → Ob < q) → ∀ q, q ∈ G → q ∉ [Rb] := fun G hG q hq hm => by have := hG q hq; rw [List.mem_singleton.1 hm] at this; omega
      exact ⟨Bv, mv, dv, B1, m1, d1, B6, m6, d6, rfl, (O0.out.fr hfR (nR _ hFr2)).toSl (fun q hq => ⟨by have := hFr2 q hq; omega, (O0.out.fr hfR (nR _ hFr2)).lt q hq⟩), (O1.out.fr hfR (nR _ t1)).toSl (fun q hq => ⟨by have := t1 q hq; omega, (O1.out.fr hfR (nR _ t1)).lt q hq⟩), (O6.out.fr hfR (nR _ t6)).toSl (fun q hq => ⟨by have := t6 q hq; omega, (O6.out.fr hfR (nR _ t6)).lt q hq⟩), by exact beloA⟩
end Go.Proofs.YtgdeclmciflmpaaGreat
