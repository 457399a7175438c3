/- A new machine: both sides' walks. -/
import Derived.Test.YtgdeclmciflmpaaGreatNewFI
import Derived.Test.YtgdeclmciflmpaaGreatTyVx
import Derived.Test.YtgdeclmciflmpaaGreatFlatK
set_option linter.unusedVariables false
set_option linter.unusedSimpArgs false
set_option maxRecDepth 100000
namespace Go.Proofs.YtgdeclmciflmpaaGreat
open Go.RowKit
theorem own_single {α : Type} {R : Rp α} {w : World} {X : Nat} {cs : List Value} {t : TypeId} {F : List Nat} {x : α} (hX : w.heap[X]? = some (.cells cs.toArray t)) (hc : cs.length = R.size) (h : R.own w F cs x) (hF : ¬ X ∈ F) (hn : F.Nodup) :
    OwnSl R w t (X :: F) (.slice (some ⟨X, 0, none⟩) 1 1) [x] := by
  refine ⟨[cs], [F], ⟨by simpa using hc, Or.inr ⟨X, 1, cs.toArray, rfl, Nat.zero_le _, hX, Nat.le_refl _, by unfold maxLen; omega, by simpa using hc, by simp [← hc]⟩⟩, ⟨h, trivial⟩, by simp [Value.ownBlock], by simpa using ⟨hF, hn⟩⟩
/-- The new frame of a code of so many variables and sites. -/
def newFr (n m : Nat) : Frame := (0, 0, 0, [], List.replicate n 0, List.replicate m false, 0, 0, 0, 1, false)
theorem own_frame {w : World} {B n m : Nat} {A4 A5 : Option Addr} {n4 c4 n5 c5 : Nat} (h : FrRows w B (.slice A4 n4 c4) (.slice A5 n5 c5) (List.replicate n 0) (List.replicate m false)) :
    ∃ F, FrameR.own w F [.int .i64 0, .int .i64 0, .int .i64 0, .slice none 0 0, .slice A4 n4 c4, .slice A5 n5 c5, .int .i64 0, .int .i64 0, .int .i64 0, .int .i64 1, .bool false] (newFr n m) ∧ (∀ k, k ∈ F → B ≤ k ∧ k < w.heap.size) ∧ F.Nodup := by
  have i0 : I64 0 := by unfold I64; omega
  have i1 : I64 1 := by unfold I64; omega
  have o4 := own_ints h.1 (fun x hx => by rw [List.eq_of_mem_replicate hx]; exact i0)
  have o5 := own_bools (h.2.1.mono (Nat.le_refl _) : w.ownsRow B 4 1 _ _ _)
  have o3 : OwnSl intR w 3 [] (.slice none 0 0) [] := OwnSl.nil_ ..
  have hd : ([] ++ ((Value.slice A4 n4 c4).ownBlock.toList ++ (Value.slice A5 n5 c5).ownBlock.toList)).Nodup := by
    have nd : ∀ o : Option Nat, o.toList.Nodup := fun o => by cases o <;> simp
    rw [List.nil_append, List.nodup_append]
    exact ⟨nd _, nd _, fun a ha b hb e => by subst e; exact h.2.2 a (by simpa using ha) (by simpa using hb)⟩
  refine ⟨_, Frame_own o3 o4 o5 i0 i0 i0 i0 i0 i0 i1 hd, fun k hk => ?_, hd⟩
  rw [List.nil_append] at hk
  rcases List.mem_append.1 hk with hk | hk
  · exact World.ownsRow.lt h.1 k (by simpa using hk)
  · exact World.ownsRow.lt h.2.1 k (by simpa using hk)
/-- A new machine in memory of its own. -/
def RetNv (n m : Nat) (w : World) (e : Ending) (w' : World) : Prop :=
  ∃ A0 n0 c0 F, e = .returned (.agg #[.slice A0 n0 c0, .slice none 0 0, .int .i64 0, .int .i64 0, .int .i64 0, .int .i64 1, .slice none 0 0]) ∧ OwnSl FrameR w' 74 F (.slice A0 n0 c0) [newFr n m] ∧ (∀ k, k ∈ F → w.heap.size ≤ k) ∧ Below w.heap.size w w'
theorem newv_end {w w2 W : World} {B : Nat} {n m n4 c4 n5 c5 X : Nat} {A4 A5 : Option Addr} (hr : FrRows w2 B (.slice A4 n4 c4) (.slice A5 n5 c5) (List.replicate n 0) (List.replicate m false)) (hB : w.heap.size ≤ B) (hX : X = w2.heap.size) (hk : ∀ k, k < w2.heap.size → B ≤ k → W.heap[k]? = w2.heap[k]?)
    (hx : W.heap[X]? = some (.cells #[.int .i64 0, .int .i64 0, .int .i64 0, .slice none 0 0, .slice A4 n4 c4, .slice A5 n5 c5, .int .i64 0, .int .i64 0, .int .i64 0, .int .i64 1, .bool false] 74)) (hb : Below w.heap.size w W) (hb2 : w.heap.size ≤ w2.heap.size) :
    RetNv n m w (.returned (.agg #[.slice (some ⟨X, 0, none⟩) 1 1, .slice none 0 0, .int .i64 0, .int .i64 0, .int .i64 0, .int .i64 1, .slice none 0 0])) W := by
  obtain ⟨F, ho, hF, hn⟩ := own_frame hr
  refine ⟨_, _, _, X :: F, rfl, own_single hx rfl (FrameR.ownKeep (fun k hk' => hk k (hF k hk').2 (hF k hk').1) ho) (fun h => by have := hF X h; omega) hn, fun k hk' => ?_, hb⟩
  rcases List.mem_cons.1 hk' with rfl | h
  · omega
  · have := hF k h; omega
set_option maxHeartbeats 4000000 in
theorem specL8New (w : World) (lo hi : Nat) (A : Option Addr) (n c : Nat) (x : List Code) (h : Sl CodeR w lo hi A n c x) (hh : hi ≤ w.heap.size) (hj : 0 < n) (hz : codeSz (x[0]'(by have := h.lenEq; omega)) = true) :
    Calls Tryz.prog 38 #[.agg #[.slice A n c]] w (RetNv (x[0]'(by have := h.lenEq; omega)).2.1.toNat (x[0]'(by have := h.lenEq; omega)).2.2.1.length w) := by
  have hjx : 0 < x.length := by have := h.lenEq; omega
  obtain ⟨b0, o0, x0, x1, A2, n2, c2, s2, A3, n3, c3, s3, A4, n4, c4, s4, rfl, _, hbb, hl, i0, i1, h2, h3, h4, d0, d1, d2, d3, d4⟩ := Code_at h hj
  rw [hl] at hz ⊢
  have hzz := codeSz_all hz
  simp only at hzz ⊢
  rw [h2.lenEq] at hzz ⊢
  obtain ⟨⟨z1, z2⟩, ⟨z3, z4⟩, z5, _⟩ := hzz
  obtain ⟨m, rfl⟩ := Int.eq_ofNat_of_zero_le (show 0 ≤ x1 by omega)
  rw [show ((m : Int)).toNat = m from rfl]
  have hm : m ≤ 6 := by omega
  clear hl hz h3 h4 z1 z2 z3 z4 h2
  have hbw : b0 < w.heap.size := by omega
  simp only [Nat.zero_mul, Nat.add_zero] at d0 d1 d2 d3 d4
  go_enter Tryz.func38, Tryz.ntmps38
  go_wp2_with fail
  refine (specL8Frame _ 0 x0 m (.int .i64 0) (.int .i64 0) A2 A3 A4 n2 c2 n3 c3 n4 c4 (by omega) (by omega)).mono ?_
  rintro e w2 ⟨A4', n4', c4', A5', n5', c5', rfl, hr, hb⟩
  have hb2 : Below w.heap.size w w2 := below_then (show Below w.heap.size w _ by exact belA) (by exact belA)
  have hz2 := hb2.size
  obtain ⟨hc2, hf2⟩ := bcell hb
  have hz3 := hb.size
  simp at hz3
  have y0 : w.heap.size < w2.heap.size := by omega
  have y1 : w.heap.size + 1 < w2.heap.size := by omega
  go_wp2_with fail
  refine bodyPost_ret (v := .agg #[.slice (some ⟨w2.heap.size, 0, none⟩) 1 1, .slice none 0 0, .int .i64 0, .int .i64 0, .int .i64 0, .int .i64 1, .slice none 0 0]) (by simp [results, Tryz.results38, go_sem, hc2, hf2, y1]) rfl ?_
  refine newv_end (X := w2.heap.size) hr (by simp; omega) rfl (fun k h1 h2 => (show Fr [w.heap.size + 1] w2 _ by exact frcA).block k h1 (by simp at h2; simp; omega)) (alloc_new' (by simp)) ?_ hz2
  exact belA
set_option maxHeartbeats 4000000 in
theorem implNewVm1 (w : World) (lo hi : Nat) (A : Option Addr) (n c : Nat) (x : List Code) (h : Sl CodeR w lo hi A n c x) (hh : hi ≤ w.heap.size) (hj : 0 < n) (hz : codeSz (x[0]'(by have := h.lenEq; omega)) = true) :
    Calls Tryz.prog 27 #[.agg #[.slice A n c]] w (RetNv (x[0]'(by have := h.lenEq; omega)).2.1.toNat (x[0]'(by have := h.lenEq; omega)).2.2.1.length w) := by
  have hjx : 0 < x.length := by have := h.lenEq; omega
  obtain ⟨b0, o0, x0, x1, A2, n2, c2, s2, A3, n3, c3, s3, A4, n4, c4, s4, rfl, _, hbb, hl, i0, i1, h2, h3, h4, d0, d1, d2, d3, d4⟩ := Code_at h hj
  have hz' := hz
  rw [hl] at hz' ⊢
  have hzz := codeSz_all hz'
  simp only at hzz ⊢
  rw [h2.lenEq] at hzz ⊢
  obtain ⟨⟨z1, z2⟩, ⟨z3, z4⟩, z5, _⟩ := hzz
  obtain ⟨m, rfl⟩ := Int.eq_ofNat_of_zero_le (show 0 ≤ x1 by omega)
  rw [show ((m : Int)).toNat = m from rfl]
  have hm : m ≤ 6 := by omega
  have HL := Lib.hid hl
  have H2 := Lib.hid h2.lenEq
  have HZ := Lib.hid hz
  clear hl hz hz' h3 h4 z1 z2 z3 z4 h2
  have hbw : b0 < w.heap.size := by omega
  simp only [Nat.zero_mul, Nat.add_zero] at d0 d1 d2 d3 d4
  go_enter Tryz.func27, Tryz.ntmps27
  go_wp2_with fail
  refine (implNewFrame0 _ lo hi (some ⟨b0, o0, none⟩) n c x 0 0 false (h.below (show Below w.heap.size w _ by exact belA) hh) (by first | omega | (simp; done) | (simp; omega)) hj HZ.out).mono ?_
  rw [HL.out]
  simp only
  rw [H2.out, show ((m : Int)).toNat = m from rfl]
  rintro e w2 ⟨A4', n4', c4', A5', n5', c5', rfl, hr, hb⟩
  have hb2 : Below w.heap.size w w2 := below_then (show Below w.heap.size w _ by exact belA) (by exact belA)
  have hz2 := hb2.size
  obtain ⟨hc2, hf2⟩ := bcell hb
  have hz3 := hb.size
  simp at hz3
  have y0 : w.heap.size < w2.heap.size := by omega
  have y1 : w.heap.size + 1 < w2.heap.size := by omega
  go_wp2_with fail
  refine bodyPost_ret (v := .agg #[.slice (some ⟨w2.heap.size, 0, none⟩) 1 1, .slice none 0 0, .int .i64 0, .int .i64 0, .int .i64 0, .int .i64 1, .slice none 0 0]) (by simp [results, Tryz.results27, go_sem, hc2, hf2, y1]) rfl ?_
  refine newv_end (X := w2.heap.size) hr (by simp; omega) rfl (fun k h1 h2 => (show Fr [w.heap.size + 1] w2 _ by exact frcA).block k h1 (by simp at h2; simp; omega)) (alloc_new' (by simp)) ?_ hz2
  exact belA

/-- What NewVm tells. -/
noncomputable def newVmR (x : Image) : Vm := if goodI x = true then ([newFr (x.getD 0 (0, 0, [], [], [])).2.1.toNat (x.getD 0 (0, 0, [], [], [])).2.2.1.length], [], 0, 0, 0, 1, []) else ([], [], 0, 0, 0, 0, [])
theorem newVmR_no {x : Image} (h : goodI x = false) : newVmR x = ([], [], 0, 0, 0, 0, []) := by unfold newVmR; rw [if_neg (by simp [h])]
theorem newVmR_yes {x : Image} (h : goodI x = true) (hx : 0 < x.length) : newVmR x = ([newFr x[0].2.1.toNat x[0].2.2.1.length], [], 0, 0, 0, 1, []) := by unfold newVmR; rw [if_pos h]; simp [List.getD, hx]
theorem newVm_sz (x : Image) : mszLFrame (newVmR x).1 + (newVmR x).2.1.length + (newVmR x).2.2.2.2.2.2.length ≤ 1000 := by
  cases h : goodI x
  · rw [newVmR_no h]; simp [mszLFrame]
  · have h1 := (goodI_iff.1 h).1
    have hl := sizedB_len h1
    have hx : 0 < x.length := by omega
    rw [newVmR_yes h hx]
    have hz := codeSz_all (sizedB_mem h1 _ (List.getElem_mem hx))
    simp [mszLFrame, mszFrame, newFr]
    omega
def RetVS (s0 : List Frame) (s1 : List Int) (x2 x3 x4 x5 : Int) (s6 : List Note) (b : Bool) (w : World) (e : Ending) (w' : World) : Prop :=
  ∃ A0 n0 c0 A1 n1 c1 A6 n6 c6, e = .returned (.tuple #[.agg #[.slice A0 n0 c0, .slice A1 n1 c1, .int .i64 x2, .int .i64 x3, .int .i64 x4, .int .i64 x5, .slice A6 n6 c6], .bool b]) ∧ Sl FrameR w' 0 w'.heap.size A0 n0 c0 s0 ∧ Sl intR w' 0 w'.heap.size A1 n1 c1 s1 ∧ Sl noteR w' 0 w'.heap.size A6 n6 c6 s6 ∧ Below w.heap.size w w'
def RetVO (s0 : List Frame) (s1 : List Int) (x2 x3 x4 x5 : Int) (s6 : List Note) (b : Bool) (w : World) (e : Ending) (w' : World) : Prop :=
  ∃ A0 n0 c0 A1 n1 c1 A6 n6 c6 F0 F1 F6, e = .returned (.tuple #[.agg #[.slice A0 n0 c0, .slice A1 n1 c1, .int .i64 x2, .int .i64 x3, .int .i64 x4, .int .i64 x5, .slice A6 n6 c6], .bool b]) ∧ OwnSl FrameR w' 74 F0 (.slice A0 n0 c0) s0 ∧ OwnSl intR w' 3 F1 (.slice A1 n1 c1) s1 ∧ OwnSl noteR w' 97 F6 (.slice A6 n6 c6) s6 ∧
    (F0 ++ (F1 ++ F6)).Nodup ∧ (∀ k, k ∈ F0 ++ (F1 ++ F6) → w.heap.size ≤ k) ∧ Below w.heap.size w w'
theorem RetVO.toS {s0 : List Frame} {s1 : List Int} {x2 x3 x4 x5 : Int} {s6 : List Note} {b : Bool} {w : World} {e : Ending} {w' : World} (h : RetVO s0 s1 x2 x3 x4 x5 s6 b w e w') : RetVS s0 s1 x2 x3 x4 x5 s6 b w e w' := by
  obtain ⟨A0, n0, c0, A1, n1, c1, A6, n6, c6, F0, F1, F6, rfl, o0, o1, o6, _, _, hb⟩ := h
  exact ⟨A0, n0, c0, A1, n1, c1, A6, n6, c6, rfl, o0.sl, o1.sl, o6.sl, hb⟩
theorem RetVO.bad {w w' : World} (hb : Below w.heap.size w w') : RetVO [] [] 0 0 0 0 [] false w (.returned (.tuple #[.agg #[.slice none 0 0, .slice none 0 0, .int .i64 0, .int .i64 0, .int .i64 0, .int .i64 0, .slice none 0 0], .bool false])) w' :=
  ⟨_, _, _, _, _, _, _, _, _, [], [], [], rfl, OwnSl.nil_ .., OwnSl.nil_ .., OwnSl.nil_ .., by simp, by simp, hb⟩
theorem RetVO.new {w w' : World} {A0 : Option Addr} {n0 c0 : Nat} {F : List Nat} {l : List Frame} (ho : OwnSl FrameR w' 74 F (.slice A0 n0 c0) l) (hF : ∀ k, k ∈ F → w.heap.size ≤ k) (hb : Below w.heap.size w w') : RetVO l [] 0 0 0 1 [] true w (.returned (.tuple #[.agg #[.slice A0 n0 c0, .slice none 0 0, .int .i64 0, .int .i64 0, .int .i64 0, .int .i64 1, .slice none 0 0], .bool true])) w' :=
  ⟨_, _, _, _, _, _, _, _, _, F, [], [], rfl, ho, OwnSl.nil_ .., OwnSl.nil_ .., by simpa using ho.nodup, fun k hk => hF k (by simpa using hk), hb⟩
end Go.Proofs.YtgdeclmciflmpaaGreat
