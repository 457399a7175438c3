/- ThreadCode: both contracts as the law takes them. -/
import Derived.Test.YtapnglgbejfkjaaThreadT
import Derived.Test.YtapnglgbejfkjaaSized2
import Derived.Test.YtapnglgbejfkjaaTyIm
set_option linter.unusedVariables false
set_option linter.unusedSimpArgs false
set_option maxRecDepth 100000
namespace Go.Proofs.Ytapnglgbejfkjaa
open Go.RowKit
theorem own_of1 {α : Type} {R : Rp α} {w : World} {e : TypeId} {F : List Nat} {A : Option Addr} {n c : Nat} {l : List α} (h : (sliceR e R).own w F [.slice A n c] l) : OwnSl R w e F (.slice A n c) l := by
  obtain ⟨A', n', c', e1, h⟩ := h
  simp only [List.cons.injEq, Value.slice.injEq, and_true] at e1
  obtain ⟨rfl, rfl, rfl⟩ := e1
  exact h
theorem code_rel {w : World} {lo hi : Nat} {x0 x1 : Int} {A2 : Option Addr} {n2 c2 : Nat} {s2 : List Int} {A3 : Option Addr} {n3 c3 : Nat} {s3 : List Ins} {A4 : Option Addr} {n4 c4 : Nat} {s4 : List Row} (i0 : I64 x0) (i1 : I64 x1) (h2 : Sl intR w lo hi A2 n2 c2 s2) (h3 : Sl InsR w lo hi A3 n3 c3 s3) (h4 : Sl RowR w lo hi A4 n4 c4 s4) :
    CodeR.rel w lo hi [.int .i64 x0, .int .i64 x1, .slice A2 n2 c2, .slice A3 n3 c3, .slice A4 n4 c4] (x0, x1, s2, s3, s4) :=
  ⟨[_], [_, _, _, _], rfl, ⟨rfl, i0⟩, [_], [_, _, _], rfl, ⟨rfl, i1⟩, [_], [_, _], rfl, ⟨A2, n2, c2, rfl, h2⟩, [_], [_], rfl, ⟨A3, n3, c3, rfl, h3⟩, ⟨A4, n4, c4, rfl, h4⟩⟩
theorem sl_code1 {w : World} {T : TypeId} {X : Nat} (hX : w.heap.size = X) {x0 x1 : Int} {A2 : Option Addr} {n2 c2 : Nat} {s2 : List Int} {A3 : Option Addr} {n3 c3 : Nat} {s3 : List Ins} {A4 : Option Addr} {n4 c4 : Nat} {s4 : List Row} (i0 : I64 x0) (i1 : I64 x1) (h2 : Sl intR w 0 w.heap.size A2 n2 c2 s2) (h3 : Sl InsR w 0 w.heap.size A3 n3 c3 s3) (h4 : Sl RowR w 0 w.heap.size A4 n4 c4 s4) :
    Sl CodeR (w.alloc (.cells #[.int .i64 x0, .int .i64 x1, .slice A2 n2 c2, .slice A3 n3 c3, .slice A4 n4 c4] T)) 0 (w.alloc (.cells #[.int .i64 x0, .int .i64 x1, .slice A2 n2 c2, .slice A3 n3 c3, .slice A4 n4 c4] T)).heap.size (some ⟨X, 0, none⟩) 1 1 [(x0, x1, s2, s3, s4)] := by
  subst hX
  have hb : Below w.heap.size w (w.alloc (.cells #[.int .i64 x0, .int .i64 x1, .slice A2 n2 c2, .slice A3 n3 c3, .slice A4 n4 c4] T)) := Below.alloc (Below.refl _ _) (Nat.le_refl _) _
  refine ⟨rfl, Nat.le_refl _, by decide, fun _ => ⟨w.heap.size, 0, rfl, Nat.zero_le _, by simp, fun i hi => ?_⟩⟩
  have hi0 : i = 0 := by simpa using hi
  subst hi0
  refine ⟨_, code_rel i0 i1 (h2.next hb) (h3.next hb) (h4.next hb), fun j hj => ?_⟩
  rw [cell_of_row _ _ _ _ _ _ (heap_alloc_new w _)]
  have hj : j < 5 := hj
  have e : j = 0 ∨ j = 1 ∨ j = 2 ∨ j = 3 ∨ j = 4 := by omega
  rcases e with rfl | rfl | rfl | rfl | rfl <;> rfl
theorem sizedB1 (c : Code) : sizedB [c] = codeSz c := by unfold sizedB; simp [inB]
def RetRS (x0 x1 : Int) (s2 : List Int) (s3 : List Ins) (s4 : List Row) (b : Bool) (w : World) (e : Ending) (w' : World) : Prop :=
  ∃ A2 n2 c2 A3 n3 c3 A4 n4 c4, e = .returned (.tuple #[.agg #[.int .i64 x0, .int .i64 x1, .slice A2 n2 c2, .slice A3 n3 c3, .slice A4 n4 c4], .bool b]) ∧ Sl intR w' 0 w'.heap.size A2 n2 c2 s2 ∧ Sl InsR w' 0 w'.heap.size A3 n3 c3 s3 ∧ Sl RowR w' 0 w'.heap.size A4 n4 c4 s4 ∧ Below w.heap.size w w'
def RetRO (x0 x1 : Int) (s2 : List Int) (s3 : List Ins) (s4 : List Row) (b : Bool) (w : World) (e : Ending) (w' : World) : Prop :=
  ∃ A2 n2 c2 A3 n3 c3 A4 n4 c4 F2 F3 F4, e = .returned (.tuple #[.agg #[.int .i64 x0, .int .i64 x1, .slice A2 n2 c2, .slice A3 n3 c3, .slice A4 n4 c4], .bool b]) ∧ OwnSl intR w' 3 F2 (.slice A2 n2 c2) s2 ∧ OwnSl InsR w' 127 F3 (.slice A3 n3 c3) s3 ∧ OwnSl RowR w' 134 F4 (.slice A4 n4 c4) s4 ∧
    (F2 ++ (F3 ++ F4)).Nodup ∧ (∀ k, k ∈ F2 ++ (F3 ++ F4) → w.heap.size ≤ k) ∧ Below w.heap.size w w'
theorem RetRO.toS {x0 x1 : Int} {s2 : List Int} {s3 : List Ins} {s4 : List Row} {b : Bool} {w : World} {e : Ending} {w' : World} (h : RetRO x0 x1 s2 s3 s4 b w e w') : RetRS x0 x1 s2 s3 s4 b w e w' := by
  obtain ⟨A2, n2, c2, A3, n3, c3, A4, n4, c4, F2, F3, F4, rfl, o2, o3, o4, _, _, hb⟩ := h
  exact ⟨A2, n2, c2, A3, n3, c3, A4, n4, c4, rfl, o2.sl, o3.sl, o4.sl, hb⟩
theorem RetRO.mk {w w' : World} {B : Nat} {x0 x1 : Int} {s2 : List Int} {s3 : List Ins} {s4 : List Row} {b : Bool} {A2 A3 A4 : Option Addr} {n2 c2 n3 c3 n4 c4 : Nat} (h : CdRows w' B (.slice A2 n2 c2) (.slice A3 n3 c3) (.slice A4 n4 c4) s2 s3 s4) (hB : w.heap.size ≤ B) (i2 : ∀ x, x ∈ s2 → I64 x) (i3 : ∀ x, x ∈ s3 → okIns x) (i4 : ∀ x, x ∈ s4 → I64 x.1 ∧ I64 x.2.1 ∧ I64 x.2.2) (hb : Below w.heap.size w w') :
    RetRO x0 x1 s2 s3 s4 b w (.returned (.tuple #[.agg #[.int .i64 x0, .int .i64 x1, .slice A2 n2 c2, .slice A3 n3 c3, .slice A4 n4 c4], .bool b])) w' := by
  refine ⟨A2, n2, c2, A3, n3, c3, A4, n4, c4, _, _, _, rfl, own_ints h.r2 i2, own_flat h.r3 (fun x hx => ins_own (i3 x hx)), own_flat h.r4 (fun x hx => row_own (i4 x hx)), ?_, ?_, hb⟩
  · rw [List.nodup_append, List.nodup_append]
    have nd : ∀ o : Option Nat, o.toList.Nodup := fun o => by cases o <;> simp
    refine ⟨nd _, ⟨nd _, nd _, ?_⟩, ?_⟩
    · intro a ha b hb e
      subst e
      exact h.d34 a (by simpa using ha) (by simpa using hb)
    · intro a ha b hb e
      subst e
      rcases List.mem_append.1 hb with hb | hb
      · exact h.d23 a (by simpa using ha) (by simpa using hb)
      · exact h.d24 a (by simpa using ha) (by simpa using hb)
  · intro k hk
    rcases List.mem_append.1 hk with hk | hk
    · exact Nat.le_trans hB (World.ownsRow.lt h.r2 k (by simpa using hk)).1
    · rcases List.mem_append.1 hk with hk | hk
      · exact Nat.le_trans hB (World.ownsRow.lt h.r3 k (by simpa using hk)).1
      · exact Nat.le_trans hB (World.ownsRow.lt h.r4 k (by simpa using hk)).1
theorem RetRO.none {w w' : World} (hb : Below w.heap.size w w') : RetRO 0 0 [] [] [] false w (.returned (.tuple #[.agg #[.int .i64 0, .int .i64 0, .slice none 0 0, .slice none 0 0, .slice none 0 0], .bool false])) w' :=
  RetRO.mk (B := w.heap.size) ⟨IntRow.nil_ _ _, InsRow.nil_ _ _, by unfold RowsRow; simpa [encL] using World.ownsRow_nil _ _ _ _, fun _ h => (by cases h), fun _ h => (by cases h), fun _ h => (by cases h)⟩ (Nat.le_refl _) (fun _ h => by simp at h) (fun _ h => by simp at h) (fun _ h => by simp at h) hb
set_option maxHeartbeats 4000000 in
theorem implThreadCodeC (w : World) (x0 x1 : Int) (A2 : Option Addr) (n2 c2 : Nat) (s2 : List Int) (A3 : Option Addr) (n3 c3 : Nat) (s3 : List Ins) (A4 : Option Addr) (n4 c4 : Nat) (s4 : List Row) (h2 : Sl intR w 0 w.heap.size A2 n2 c2 s2) (h3 : Sl InsR w 0 w.heap.size A3 n3 c3 s3) (h4 : Sl RowR w 0 w.heap.size A4 n4 c4 s4)
    (m2 : s2.length ≤ 1048576) (m3 : s3.length ≤ 1048576) (m4 : s4.length ≤ 1048576) (i0 : I64 x0) (i1 : I64 x1) (z0 z1 : Int) (t2 : List Int) (t3 : List Ins) (t4 : List Row) (hz : threadR (x0, x1, s2, s3, s4) = (z0, z1, t2, t3, t4)) (b : Bool) (hb : thrB (x0, x1, s2, s3, s4) = b) :
    Calls Try.prog 20 #[.agg #[.int .i64 x0, .int .i64 x1, .slice A2 n2 c2, .slice A3 n3 c3, .slice A4 n4 c4]] w (RetRO z0 z1 t2 t3 t4 b w) := by
  have j2 := sl_ints_ok h2
  have j3 := sl_ins_ok h3
  have j4 := sl_rows_ok h4
  have HB := Lib.hid hb
  have l3 := h3.lenEq
  cases hc : codeSz (x0, x1, s2, s3, s4)
  · have e : b = false := by rw [← hb]; unfold thrB; rw [hc]; rfl
    subst e
    rw [threadR_no HB.out] at hz
    simp only [noCode, Prod.mk.injEq] at hz
    obtain ⟨rfl, rfl, rfl, rfl, rfl⟩ := hz
    have HC := Lib.hid hc
    clear hc hb
    go_enter Try.func20, Try.ntmps20
    go_wp2_with fail
    refine (implIsSizedCode _ 0 _ x0 x1 A2 A3 A4 n2 c2 n3 c3 n4 c4 s2 s3 s4 (h2.next (by (repeat (first | with_reducible exact Below.refl _ _ | with_reducible assumption | with_reducible refine below_alloc ?_ _ | ((with_reducible refine Below.setCell ?_ ?_ _); rotate_left; (· first | exact Nat.le_refl _ | (simp; done) | (simp; omega))) | with_reducible refine below_drewN ?_ _ | with_reducible refine Below.drew ?_ | with_reducible refine below_then ?_ (by with_reducible assumption))))) (h3.next (by (repeat (first | with_reducible exact Below.refl _ _ | with_reducible assumption | with_reducible refine below_alloc ?_ _ | ((with_reducible refine Below.setCell ?_ ?_ _); rotate_left; (· first | exact Nat.le_refl _ | (simp; done) | (simp; omega))) | with_reducible refine below_drewN ?_ _ | with_reducible refine Below.drew ?_ | with_reducible refine below_then ?_ (by with_reducible assumption))))) (h4.next (by (repeat (first | with_reducible exact Below.refl _ _ | with_reducible assumption | with_reducible refine below_alloc ?_ _ | ((with_reducible refine Below.setCell ?_ ?_ _); rotate_left; (· first | exact Nat.le_refl _ | (simp; done) | (simp; omega))) | with_reducible refine below_drewN ?_ _ | with_reducible refine Below.drew ?_ | with_reducible refine below_then ?_ (by with_reducible assumption))))) (Nat.le_refl _)).mono ?_
    rintro e w2 ⟨rfl, hb2⟩
    rw [HC.out]
    obtain ⟨hcE, hfE⟩ := bcell hb2
    have r0 : w2.cell? ⟨w.heap.size + 1, 0, none⟩ = some (.int .i64 0) := by simp [hcE, go_sem]
    have r1 : w2.cell? ⟨w.heap.size + 1, 1, none⟩ = some (.int .i64 0) := by simp [hcE, go_sem]
    have r2 : w2.cell? ⟨w.heap.size + 1, 2, none⟩ = some (.slice none 0 0) := by simp [hcE, go_sem]
    have r3 : w2.cell? ⟨w.heap.size + 1, 3, none⟩ = some (.slice none 0 0) := by simp [hcE, go_sem]
    have r4 : w2.cell? ⟨w.heap.size + 1, 4, none⟩ = some (.slice none 0 0) := by simp [hcE, go_sem]
    have rf : ∀ j, w2.frozen? ⟨w.heap.size + 1, j, none⟩ = false := fun j => by simp [hfE, go_sem]
    have hx2 : Below w.heap.size w w2 := by (repeat (first | with_reducible exact Below.refl _ _ | with_reducible assumption | with_reducible refine below_alloc ?_ _ | ((with_reducible refine Below.setCell ?_ ?_ _); rotate_left; (· first | exact Nat.le_refl _ | (simp; done) | (simp; omega))) | with_reducible refine below_drewN ?_ _ | with_reducible refine Below.drew ?_ | with_reducible refine below_then ?_ (by with_reducible assumption)))
    clear hcE hfE hb2
    go_wp2_with fail
    refine bodyPost_ret (v := .tuple #[.agg #[.int .i64 0, .int .i64 0, .slice none 0 0, .slice none 0 0, .slice none 0 0], .bool false]) (by simp [results, Try.results20, go_sem, r0, r1, r2, r3, r4, rf]) rfl ?_
    exact RetRO.none (by (repeat (first | with_reducible exact Below.refl _ _ | with_reducible assumption | with_reducible refine below_alloc ?_ _ | ((with_reducible refine Below.setCell ?_ ?_ _); rotate_left; (· first | exact Nat.le_refl _ | (simp; done) | (simp; omega))) | with_reducible refine below_drewN ?_ _ | with_reducible refine Below.drew ?_ | with_reducible refine below_then ?_ (by with_reducible assumption))))
  · have hsz := codeSz_len hc
    have HC := Lib.hid hc
    cases hgo : goesB s3
    · have e : b = false := by rw [← hb]; unfold thrB; rw [hc]; exact hgo
      subst e
      rw [threadR_no HB.out] at hz
      simp only [noCode, Prod.mk.injEq] at hz
      obtain ⟨rfl, rfl, rfl, rfl, rfl⟩ := hz
      have HG := Lib.hid hgo
      clear hc hb hgo
      go_enter Try.func20, Try.ntmps20
      go_wp2_with fail
      refine (implIsSizedCode _ 0 _ x0 x1 A2 A3 A4 n2 c2 n3 c3 n4 c4 s2 s3 s4 (h2.next (by (repeat (first | with_reducible exact Below.refl _ _ | with_reducible assumption | with_reducible refine below_alloc ?_ _ | ((with_reducible refine Below.setCell ?_ ?_ _); rotate_left; (· first | exact Nat.le_refl _ | (simp; done) | (simp; omega))) | with_reducible refine below_drewN ?_ _ | with_reducible refine Below.drew ?_ | with_reducible refine below_then ?_ (by with_reducible assumption))))) (h3.next (by (repeat (first | with_reducible exact Below.refl _ _ | with_reducible assumption | with_reducible refine below_alloc ?_ _ | ((with_reducible refine Below.setCell ?_ ?_ _); rotate_left; (· first | exact Nat.le_refl _ | (simp; done) | (simp; omega))) | with_reducible refine below_drewN ?_ _ | with_reducible refine Below.drew ?_ | with_reducible refine below_then ?_ (by with_reducible assumption))))) (h4.next (by (repeat (first | with_reducible exact Below.refl _ _ | with_reducible assumption | with_reducible refine below_alloc ?_ _ | ((with_reducible refine Below.setCell ?_ ?_ _); rotate_left; (· first | exact Nat.le_refl _ | (simp; done) | (simp; omega))) | with_reducible refine below_drewN ?_ _ | with_reducible refine Below.drew ?_ | with_reducible refine below_then ?_ (by with_reducible assumption))))) (Nat.le_refl _)).mono ?_
      rintro e w2 ⟨rfl, hb2⟩
      rw [HC.out]
      obtain ⟨hcE, hfE⟩ := bcell hb2
      have p3 : w2.cell? ⟨w.heap.size, 3, none⟩ = some (.slice A3 n3 c3) := by simp [hcE, go_sem]
      have r0 : w2.cell? ⟨w.heap.size + 1, 0, none⟩ = some (.int .i64 0) := by simp [hcE, go_sem]
      have hx2 : Below w.heap.size w w2 := by (repeat (first | with_reducible exact Below.refl _ _ | with_reducible assumption | with_reducible refine below_alloc ?_ _ | ((with_reducible refine Below.setCell ?_ ?_ _); rotate_left; (· first | exact Nat.le_refl _ | (simp; done) | (simp; omega))) | with_reducible refine below_drewN ?_ _ | with_reducible refine Below.drew ?_ | with_reducible refine below_then ?_ (by with_reducible assumption)))
      have r1 : w2.cell? ⟨w.heap.size + 1, 1, none⟩ = some (.int .i64 0) := by simp [hcE, go_sem]
      have r2 : w2.cell? ⟨w.heap.size + 1, 2, none⟩ = some (.slice none 0 0) := by simp [hcE, go_sem]
      have r3 : w2.cell? ⟨w.heap.size + 1, 3, none⟩ = some (.slice none 0 0) := by simp [hcE, go_sem]
      have r4 : w2.cell? ⟨w.heap.size + 1, 4, none⟩ = some (.slice none 0 0) := by simp [hcE, go_sem]
      have rf : ∀ j, w2.frozen? ⟨w.heap.size + 1, j, none⟩ = false := fun j => by simp [hfE, go_sem]
      have hR : w.heap.size + 1 < w2.heap.size := World.block_lt_of_cell? w2 _ r0
      clear hcE hfE hb2
      go_wp2_with fail
      refine (implGoesOn _ 0 _ A3 n3 c3 s3 (h3.next hx2) (Nat.le_refl _) (by omega) hsz.2.2.2).mono ?_
      rintro e w3 ⟨rfl, hb3⟩
      rw [HG.out]
      have q0 := below_cell hb3 r0
      have q1 := below_cell hb3 r1
      have q2 := below_cell hb3 r2
      have q3 := below_cell hb3 r3
      have q4 := below_cell hb3 r4
      have qf : ∀ j, w3.frozen? ⟨w.heap.size + 1, j, none⟩ = false := fun j => below_frozen hb3 hR (rf j)
      have hx3 := below_then hx2 hb3
      clear r0 r1 r2 r3 r4 rf hb3 p3
      go_wp2_with fail
      refine bodyPost_ret (v := .tuple #[.agg #[.int .i64 0, .int .i64 0, .slice none 0 0, .slice none 0 0, .slice none 0 0], .bool false]) (by simp [results, Try.results20, go_sem, q0, q1, q2, q3, q4, qf]) rfl ?_
      exact RetRO.none (by (repeat (first | with_reducible exact Below.refl _ _ | with_reducible assumption | with_reducible refine below_alloc ?_ _ | ((with_reducible refine Below.setCell ?_ ?_ _); rotate_left; (· first | exact Nat.le_refl _ | (simp; done) | (simp; omega))) | with_reducible refine below_drewN ?_ _ | with_reducible refine Below.drew ?_ | with_reducible refine below_then ?_ (by with_reducible assumption))))
    · have e : b = true := by rw [← hb]; unfold thrB; rw [hc]; exact hgo
      subst e
      rw [threadR_yes HB.out] at hz
      simp only [threadF, Prod.mk.injEq] at hz
      obtain ⟨rfl, rfl, rfl, rfl, rfl⟩ := hz
      have HG := Lib.hid hgo
      clear hc hb hgo
      go_enter Try.func20, Try.ntmps20
      go_wp2_with fail
      refine (implIsSizedCode _ 0 _ x0 x1 A2 A3 A4 n2 c2 n3 c3 n4 c4 s2 s3 s4 (h2.next (by (repeat (first | with_reducible exact Below.refl _ _ | with_reducible assumption | with_reducible refine below_alloc ?_ _ | ((with_reducible refine Below.setCell ?_ ?_ _); rotate_left; (· first | exact Nat.le_refl _ | (simp; done) | (simp; omega))) | with_reducible refine below_drewN ?_ _ | with_reducible refine Below.drew ?_ | with_reducible refine below_then ?_ (by with_reducible assumption))))) (h3.next (by (repeat (first | with_reducible exact Below.refl _ _ | with_reducible assumption | with_reducible refine below_alloc ?_ _ | ((with_reducible refine Below.setCell ?_ ?_ _); rotate_left; (· first | exact Nat.le_refl _ | (simp; done) | (simp; omega))) | with_reducible refine below_drewN ?_ _ | with_reducible refine Below.drew ?_ | with_reducible refine below_then ?_ (by with_reducible assumption))))) (h4.next (by (repeat (first | with_reducible exact Below.refl _ _ | with_reducible assumption | with_reducible refine below_alloc ?_ _ | ((with_reducible refine Below.setCell ?_ ?_ _); rotate_left; (· first | exact Nat.le_refl _ | (simp; done) | (simp; omega))) | with_reducible refine below_drewN ?_ _ | with_reducible refine Below.drew ?_ | with_reducible refine below_then ?_ (by with_reducible assumption))))) (Nat.le_refl _)).mono ?_
      rintro e w2 ⟨rfl, hb2⟩
      rw [HC.out]
      obtain ⟨hcE, hfE⟩ := bcell hb2
      have p0 : w2.cell? ⟨w.heap.size, 0, none⟩ = some (.int .i64 x0) := by simp [hcE, go_sem]
      have p1 : w2.cell? ⟨w.heap.size, 1, none⟩ = some (.int .i64 x1) := by simp [hcE, go_sem]
      have p2 : w2.cell? ⟨w.heap.size, 2, none⟩ = some (.slice A2 n2 c2) := by simp [hcE, go_sem]
      have p3 : w2.cell? ⟨w.heap.size, 3, none⟩ = some (.slice A3 n3 c3) := by simp [hcE, go_sem]
      have p4 : w2.cell? ⟨w.heap.size, 4, none⟩ = some (.slice A4 n4 c4) := by simp [hcE, go_sem]
      have r0 : w2.cell? ⟨w.heap.size + 1, 0, none⟩ = some (.int .i64 0) := by simp [hcE, go_sem]
      have r1 : w2.cell? ⟨w.heap.size + 1, 1, none⟩ = some (.int .i64 0) := by simp [hcE, go_sem]
      have r2 : w2.cell? ⟨w.heap.size + 1, 2, none⟩ = some (.slice none 0 0) := by simp [hcE, go_sem]
      have r3 : w2.cell? ⟨w.heap.size + 1, 3, none⟩ = some (.slice none 0 0) := by simp [hcE, go_sem]
      have r4 : w2.cell? ⟨w.heap.size + 1, 4, none⟩ = some (.slice none 0 0) := by simp [hcE, go_sem]
      have rf : ∀ j, w2.frozen? ⟨w.heap.size + 1, j, none⟩ = false := fun j => by simp [hfE, go_sem]
      have hR : w.heap.size + 1 < w2.heap.size := World.block_lt_of_cell? w2 _ r0
      have hx2 : Below w.heap.size w w2 := by (repeat (first | with_reducible exact Below.refl _ _ | with_reducible assumption | with_reducible refine below_alloc ?_ _ | ((with_reducible refine Below.setCell ?_ ?_ _); rotate_left; (· first | exact Nat.le_refl _ | (simp; done) | (simp; omega))) | with_reducible refine below_drewN ?_ _ | with_reducible refine Below.drew ?_ | with_reducible refine below_then ?_ (by with_reducible assumption)))
      clear hcE hfE hb2
      go_wp2_with fail
      refine (implGoesOn _ 0 _ A3 n3 c3 s3 (h3.next hx2) (Nat.le_refl _) (by omega) hsz.2.2.2).mono ?_
      rintro e w3 ⟨rfl, hb3⟩
      rw [HG.out]
      replace p0 := below_cell hb3 p0
      replace p1 := below_cell hb3 p1
      replace p2 := below_cell hb3 p2
      replace p3 := below_cell hb3 p3
      replace p4 := below_cell hb3 p4
      replace r0 := below_cell hb3 r0
      replace r1 := below_cell hb3 r1
      replace r2 := below_cell hb3 r2
      replace r3 := below_cell hb3 r3
      replace r4 := below_cell hb3 r4
      replace rf : ∀ j, w3.frozen? ⟨w.heap.size + 1, j, none⟩ = false := fun j => below_frozen hb3 hR (rf j)
      have hR3 : w.heap.size + 1 < w3.heap.size := World.block_lt_of_cell? w3 _ r0
      have hx3 := below_then hx2 hb3
      clear hb3 hR
      go_wp2_with fail
      refine (implThreaded _ 0 _ x0 x1 A2 A3 A4 n2 c2 n3 c3 n4 c4 s2 s3 s4 (h2.next hx3) (h3.next hx3) (h4.next hx3) (Nat.le_refl _) HB.out).mono ?_
      rintro e w4 ⟨B2, k2, l2, B3, k3, l3', B4, k4, l4, rfl, hcd, hb4⟩
      have q0 := below_cell hb4 r0
      have q1 := below_cell hb4 r1
      have q2 := below_cell hb4 r2
      have q3 := below_cell hb4 r3
      have q4 := below_cell hb4 r4
      have qf : ∀ j, w4.frozen? ⟨w.heap.size + 1, j, none⟩ = false := fun j => below_frozen hb4 hR3 (rf j)
      have hx4 := below_then hx3 hb4
      clear p0 p1 p2 p3 p4 r0 r1 r2 r3 r4 rf hb4
      have hxs := hx3.size
      go_wp2_with fail
      refine bodyPost_ret (v := .tuple #[.agg #[.int .i64 x0, .int .i64 x1, .slice B2 k2 l2, .slice B3 k3 l3', .slice B4 k4 l4], .bool true]) (by simp [results, Try.results20, go_sem, q0, q1, q2, q3, q4, qf]) rfl ?_
      refine RetRO.mk (hcd.fr (G := [w.heap.size + 1]) (by (repeat (first | with_reducible exact Fr.refl _ _ | with_reducible assumption | ((with_reducible refine Fr.setCell ?_ ?_ _); rotate_left; (· first | (simp; done) | assumption | (simp; assumption))) | with_reducible refine Fr.drewN ?_ _ | with_reducible refine Fr.drew ?_ | with_reducible refine Fr.alloc ?_ _ | with_reducible refine Fr.trans ?_ (Fr.of_below (by with_reducible assumption))))) (by first | omega | (simp; done) | (simp; omega))) hxs j2 (fun x hx => ?_) j4 (by (repeat (first | with_reducible exact Below.refl _ _ | with_reducible assumption | with_reducible refine below_alloc ?_ _ | ((with_reducible refine Below.setCell ?_ ?_ _); rotate_left; (· first | exact Nat.le_refl _ | (simp; done) | (simp; omega))) | with_reducible refine below_drewN ?_ _ | with_reducible refine Below.drew ?_ | with_reducible refine below_then ?_ (by with_reducible assumption))))
      obtain ⟨y, hy, rfl⟩ := List.mem_map.1 hx
      exact thrI_ok HG.out (by omega) hy (j3 y hy)
set_option maxHeartbeats 4000000 in
theorem specThreadCodeC (w : World) (x0 x1 : Int) (A2 : Option Addr) (n2 c2 : Nat) (s2 : List Int) (A3 : Option Addr) (n3 c3 : Nat) (s3 : List Ins) (A4 : Option Addr) (n4 c4 : Nat) (s4 : List Row) (h2 : Sl intR w 0 w.heap.size A2 n2 c2 s2) (h3 : Sl InsR w 0 w.heap.size A3 n3 c3 s3) (h4 : Sl RowR w 0 w.heap.size A4 n4 c4 s4)
    (m2 : s2.length ≤ 1048576) (m3 : s3.length ≤ 1048576) (m4 : s4.length ≤ 1048576) (i0 : I64 x0) (i1 : I64 x1) (z0 z1 : Int) (t2 : List Int) (t3 : List Ins) (t4 : List Row) (hz : threadR (x0, x1, s2, s3, s4) = (z0, z1, t2, t3, t4)) (b : Bool) (hb : thrB (x0, x1, s2, s3, s4) = b) :
    Calls Try.prog 19 #[.agg #[.int .i64 x0, .int .i64 x1, .slice A2 n2 c2, .slice A3 n3 c3, .slice A4 n4 c4]] w (RetRS z0 z1 t2 t3 t4 b w) := by
  have j2 := sl_ints_ok h2
  have j3 := sl_ins_ok h3
  have j4 := sl_rows_ok h4
  have HB := Lib.hid hb
  have l3 := h3.lenEq
  cases hc : codeSz (x0, x1, s2, s3, s4)
  · have e : b = false := by rw [← hb]; unfold thrB; rw [hc]; rfl
    subst e
    rw [threadR_no HB.out] at hz
    simp only [noCode, Prod.mk.injEq] at hz
    obtain ⟨rfl, rfl, rfl, rfl, rfl⟩ := hz
    have HC := Lib.hid hc
    clear hc hb
    go_enter Try.func19, Try.ntmps19
    go_wp2_with fail
    refine (specL5Sized _ 0 _ _ 1 1 [(x0, x1, s2, s3, s4)] (sl_code1 (by first | omega | (simp; done) | (simp; omega)) i0 i1 (h2.next (by (repeat (first | with_reducible exact Below.refl _ _ | with_reducible assumption | with_reducible refine below_alloc ?_ _ | ((with_reducible refine Below.setCell ?_ ?_ _); rotate_left; (· first | exact Nat.le_refl _ | (simp; done) | (simp; omega))) | with_reducible refine below_drewN ?_ _ | with_reducible refine Below.drew ?_ | with_reducible refine below_then ?_ (by with_reducible assumption))))) (h3.next (by (repeat (first | with_reducible exact Below.refl _ _ | with_reducible assumption | with_reducible refine below_alloc ?_ _ | ((with_reducible refine Below.setCell ?_ ?_ _); rotate_left; (· first | exact Nat.le_refl _ | (simp; done) | (simp; omega))) | with_reducible refine below_drewN ?_ _ | with_reducible refine Below.drew ?_ | with_reducible refine below_then ?_ (by with_reducible assumption))))) (h4.next (by (repeat (first | with_reducible exact Below.refl _ _ | with_reducible assumption | with_reducible refine below_alloc ?_ _ | ((with_reducible refine Below.setCell ?_ ?_ _); rotate_left; (· first | exact Nat.le_refl _ | (simp; done) | (simp; omega))) | with_reducible refine below_drewN ?_ _ | with_reducible refine Below.drew ?_ | with_reducible refine below_then ?_ (by with_reducible assumption)))))) (Nat.le_refl _)).mono ?_
    rintro e w2 ⟨rfl, hb2⟩
    rw [sizedB1, HC.out]
    obtain ⟨hcE, hfE⟩ := bcell hb2
    have r0 : w2.cell? ⟨w.heap.size + 1, 0, none⟩ = some (.int .i64 0) := by simp [hcE, go_sem]
    have r1 : w2.cell? ⟨w.heap.size + 1, 1, none⟩ = some (.int .i64 0) := by simp [hcE, go_sem]
    have r2 : w2.cell? ⟨w.heap.size + 1, 2, none⟩ = some (.slice none 0 0) := by simp [hcE, go_sem]
    have r3 : w2.cell? ⟨w.heap.size + 1, 3, none⟩ = some (.slice none 0 0) := by simp [hcE, go_sem]
    have r4 : w2.cell? ⟨w.heap.size + 1, 4, none⟩ = some (.slice none 0 0) := by simp [hcE, go_sem]
    have rf : ∀ j, w2.frozen? ⟨w.heap.size + 1, j, none⟩ = false := fun j => by simp [hfE, go_sem]
    have hx2 : Below w.heap.size w w2 := by (repeat (first | with_reducible exact Below.refl _ _ | with_reducible assumption | with_reducible refine below_alloc ?_ _ | ((with_reducible refine Below.setCell ?_ ?_ _); rotate_left; (· first | exact Nat.le_refl _ | (simp; done) | (simp; omega))) | with_reducible refine below_drewN ?_ _ | with_reducible refine Below.drew ?_ | with_reducible refine below_then ?_ (by with_reducible assumption)))
    clear hcE hfE hb2
    go_wp2_with fail
    refine bodyPost_ret (v := .tuple #[.agg #[.int .i64 0, .int .i64 0, .slice none 0 0, .slice none 0 0, .slice none 0 0], .bool false]) (by simp [results, Try.results19, go_sem, r0, r1, r2, r3, r4, rf]) rfl ?_
    exact (RetRO.none (by (repeat (first | with_reducible exact Below.refl _ _ | with_reducible assumption | with_reducible refine below_alloc ?_ _ | ((with_reducible refine Below.setCell ?_ ?_ _); rotate_left; (· first | exact Nat.le_refl _ | (simp; done) | (simp; omega))) | with_reducible refine below_drewN ?_ _ | with_reducible refine Below.drew ?_ | with_reducible refine below_then ?_ (by with_reducible assumption))))).toS
  · have hsz := codeSz_len hc
    have HC := Lib.hid hc
    cases hgo : goesB s3
    · have e : b = false := by rw [← hb]; unfold thrB; rw [hc]; exact hgo
      subst e
      rw [threadR_no HB.out] at hz
      simp only [noCode, Prod.mk.injEq] at hz
      obtain ⟨rfl, rfl, rfl, rfl, rfl⟩ := hz
      have HG := Lib.hid hgo
      clear hc hb hgo
      go_enter Try.func19, Try.ntmps19
      go_wp2_with fail
      refine (specL5Sized _ 0 _ _ 1 1 [(x0, x1, s2, s3, s4)] (sl_code1 (by first | omega | (simp; done) | (simp; omega)) i0 i1 (h2.next (by (repeat (first | with_reducible exact Below.refl _ _ | with_reducible assumption | with_reducible refine below_alloc ?_ _ | ((with_reducible refine Below.setCell ?_ ?_ _); rotate_left; (· first | exact Nat.le_refl _ | (simp; done) | (simp; omega))) | with_reducible refine below_drewN ?_ _ | with_reducible refine Below.drew ?_ | with_reducible refine below_then ?_ (by with_reducible assumption))))) (h3.next (by (repeat (first | with_reducible exact Below.refl _ _ | with_reducible assumption | with_reducible refine below_alloc ?_ _ | ((with_reducible refine Below.setCell ?_ ?_ _); rotate_left; (· first | exact Nat.le_refl _ | (simp; done) | (simp; omega))) | with_reducible refine below_drewN ?_ _ | with_reducible refine Below.drew ?_ | with_reducible refine below_then ?_ (by with_reducible assumption))))) (h4.next (by (repeat (first | with_reducible exact Below.refl _ _ | with_reducible assumption | with_reducible refine below_alloc ?_ _ | ((with_reducible refine Below.setCell ?_ ?_ _); rotate_left; (· first | exact Nat.le_refl _ | (simp; done) | (simp; omega))) | with_reducible refine below_drewN ?_ _ | with_reducible refine Below.drew ?_ | with_reducible refine below_then ?_ (by with_reducible assumption)))))) (Nat.le_refl _)).mono ?_
      rintro e w2 ⟨rfl, hb2⟩
      rw [sizedB1, HC.out]
      obtain ⟨hcE, hfE⟩ := bcell hb2
      have p0 : w2.cell? ⟨w.heap.size, 0, none⟩ = some (.int .i64 x0) := by simp [hcE, go_sem]
      have p1 : w2.cell? ⟨w.heap.size, 1, none⟩ = some (.int .i64 x1) := by simp [hcE, go_sem]
      have p2 : w2.cell? ⟨w.heap.size, 2, none⟩ = some (.slice A2 n2 c2) := by simp [hcE, go_sem]
      have p3 : w2.cell? ⟨w.heap.size, 3, none⟩ = some (.slice A3 n3 c3) := by simp [hcE, go_sem]
      have p4 : w2.cell? ⟨w.heap.size, 4, none⟩ = some (.slice A4 n4 c4) := by simp [hcE, go_sem]
      have r0 : w2.cell? ⟨w.heap.size + 1, 0, none⟩ = some (.int .i64 0) := by simp [hcE, go_sem]
      have hx2 : Below w.heap.size w w2 := by (repeat (first | with_reducible exact Below.refl _ _ | with_reducible assumption | with_reducible refine below_alloc ?_ _ | ((with_reducible refine Below.setCell ?_ ?_ _); rotate_left; (· first | exact Nat.le_refl _ | (simp; done) | (simp; omega))) | with_reducible refine below_drewN ?_ _ | with_reducible refine Below.drew ?_ | with_reducible refine below_then ?_ (by with_reducible assumption)))
      have r1 : w2.cell? ⟨w.heap.size + 1, 1, none⟩ = some (.int .i64 0) := by simp [hcE, go_sem]
      have r2 : w2.cell? ⟨w.heap.size + 1, 2, none⟩ = some (.slice none 0 0) := by simp [hcE, go_sem]
      have r3 : w2.cell? ⟨w.heap.size + 1, 3, none⟩ = some (.slice none 0 0) := by simp [hcE, go_sem]
      have r4 : w2.cell? ⟨w.heap.size + 1, 4, none⟩ = some (.slice none 0 0) := by simp [hcE, go_sem]
      have rf : ∀ j, w2.frozen? ⟨w.heap.size + 1, j, none⟩ = false := fun j => by simp [hfE, go_sem]
      have hR : w.heap.size + 1 < w2.heap.size := World.block_lt_of_cell? w2 _ r0
      clear hcE hfE hb2
      go_wp2_with fail
      refine (specL5Goes _ 0 _ x0 x1 (.bool true) (.bool true) A3 n3 c3 A2 A4 n2 c2 n4 c4 s3 (h3.next hx2) (Nat.le_refl _) (by omega)).mono ?_
      rintro e w3 ⟨rfl, hb3⟩
      rw [HG.out]
      have q0 := below_cell hb3 r0
      have q1 := below_cell hb3 r1
      have q2 := below_cell hb3 r2
      have q3 := below_cell hb3 r3
      have q4 := below_cell hb3 r4
      have qf : ∀ j, w3.frozen? ⟨w.heap.size + 1, j, none⟩ = false := fun j => below_frozen hb3 hR (rf j)
      have hx3 := below_then hx2 hb3
      clear r0 r1 r2 r3 r4 rf hb3 p0 p1 p2 p3 p4
      go_wp2_with fail
      refine bodyPost_ret (v := .tuple #[.agg #[.int .i64 0, .int .i64 0, .slice none 0 0, .slice none 0 0, .slice none 0 0], .bool false]) (by simp [results, Try.results19, go_sem, q0, q1, q2, q3, q4, qf]) rfl ?_
      exact (RetRO.none (by (repeat (first | with_reducible exact Below.refl _ _ | with_reducible assumption | with_reducible refine below_alloc ?_ _ | ((with_reducible refine Below.setCell ?_ ?_ _); rotate_left; (· first | exact Nat.le_refl _ | (simp; done) | (simp; omega))) | with_reducible refine below_drewN ?_ _ | with_reducible refine Below.drew ?_ | with_reducible refine below_then ?_ (by with_reducible assumption))))).toS
    · have e : b = true := by rw [← hb]; unfold thrB; rw [hc]; exact hgo
      subst e
      rw [threadR_yes HB.out] at hz
      simp only [threadF, Prod.mk.injEq] at hz
      obtain ⟨rfl, rfl, rfl, rfl, rfl⟩ := hz
      have HG := Lib.hid hgo
      clear hc hb hgo
      go_enter Try.func19, Try.ntmps19
      go_wp2_with fail
      refine (specL5Sized _ 0 _ _ 1 1 [(x0, x1, s2, s3, s4)] (sl_code1 (by first | omega | (simp; done) | (simp; omega)) i0 i1 (h2.next (by (repeat (first | with_reducible exact Below.refl _ _ | with_reducible assumption | with_reducible refine below_alloc ?_ _ | ((with_reducible refine Below.setCell ?_ ?_ _); rotate_left; (· first | exact Nat.le_refl _ | (simp; done) | (simp; omega))) | with_reducible refine below_drewN ?_ _ | with_reducible refine Below.drew ?_ | with_reducible refine below_then ?_ (by with_reducible assumption))))) (h3.next (by (repeat (first | with_reducible exact Below.refl _ _ | with_reducible assumption | with_reducible refine below_alloc ?_ _ | ((with_reducible refine Below.setCell ?_ ?_ _); rotate_left; (· first | exact Nat.le_refl _ | (simp; done) | (simp; omega))) | with_reducible refine below_drewN ?_ _ | with_reducible refine Below.drew ?_ | with_reducible refine below_then ?_ (by with_reducible assumption))))) (h4.next (by (repeat (first | with_reducible exact Below.refl _ _ | with_reducible assumption | with_reducible refine below_alloc ?_ _ | ((with_reducible refine Below.setCell ?_ ?_ _); rotate_left; (· first | exact Nat.le_refl _ | (simp; done) | (simp; omega))) | with_reducible refine below_drewN ?_ _ | with_reducible refine Below.drew ?_ | with_reducible refine below_then ?_ (by with_reducible assumption)))))) (Nat.le_refl _)).mono ?_
      rintro e w2 ⟨rfl, hb2⟩
      rw [sizedB1, HC.out]
      obtain ⟨hcE, hfE⟩ := bcell hb2
      have p0 : w2.cell? ⟨w.heap.size, 0, none⟩ = some (.int .i64 x0) := by simp [hcE, go_sem]
      have p1 : w2.cell? ⟨w.heap.size, 1, none⟩ = some (.int .i64 x1) := by simp [hcE, go_sem]
      have p2 : w2.cell? ⟨w.heap.size, 2, none⟩ = some (.slice A2 n2 c2) := by simp [hcE, go_sem]
      have p3 : w2.cell? ⟨w.heap.size, 3, none⟩ = some (.slice A3 n3 c3) := by simp [hcE, go_sem]
      have p4 : w2.cell? ⟨w.heap.size, 4, none⟩ = some (.slice A4 n4 c4) := by simp [hcE, go_sem]
      have r0 : w2.cell? ⟨w.heap.size + 1, 0, none⟩ = some (.int .i64 0) := by simp [hcE, go_sem]
      have r1 : w2.cell? ⟨w.heap.size + 1, 1, none⟩ = some (.int .i64 0) := by simp [hcE, go_sem]
      have r2 : w2.cell? ⟨w.heap.size + 1, 2, none⟩ = some (.slice none 0 0) := by simp [hcE, go_sem]
      have r3 : w2.cell? ⟨w.heap.size + 1, 3, none⟩ = some (.slice none 0 0) := by simp [hcE, go_sem]
      have r4 : w2.cell? ⟨w.heap.size + 1, 4, none⟩ = some (.slice none 0 0) := by simp [hcE, go_sem]
      have rf : ∀ j, w2.frozen? ⟨w.heap.size + 1, j, none⟩ = false := fun j => by simp [hfE, go_sem]
      have hR : w.heap.size + 1 < w2.heap.size := World.block_lt_of_cell? w2 _ r0
      have hx2 : Below w.heap.size w w2 := by (repeat (first | with_reducible exact Below.refl _ _ | with_reducible assumption | with_reducible refine below_alloc ?_ _ | ((with_reducible refine Below.setCell ?_ ?_ _); rotate_left; (· first | exact Nat.le_refl _ | (simp; done) | (simp; omega))) | with_reducible refine below_drewN ?_ _ | with_reducible refine Below.drew ?_ | with_reducible refine below_then ?_ (by with_reducible assumption)))
      clear hcE hfE hb2
      go_wp2_with fail
      refine (specL5Goes _ 0 _ x0 x1 (.bool true) (.bool true) A3 n3 c3 A2 A4 n2 c2 n4 c4 s3 (h3.next hx2) (Nat.le_refl _) (by omega)).mono ?_
      rintro e w3 ⟨rfl, hb3⟩
      rw [HG.out]
      replace p0 := below_cell hb3 p0
      replace p1 := below_cell hb3 p1
      replace p2 := below_cell hb3 p2
      replace p3 := below_cell hb3 p3
      replace p4 := below_cell hb3 p4
      replace r0 := below_cell hb3 r0
      replace r1 := below_cell hb3 r1
      replace r2 := below_cell hb3 r2
      replace r3 := below_cell hb3 r3
      replace r4 := below_cell hb3 r4
      replace rf : ∀ j, w3.frozen? ⟨w.heap.size + 1, j, none⟩ = false := fun j => below_frozen hb3 hR (rf j)
      have hR3 : w.heap.size + 1 < w3.heap.size := World.block_lt_of_cell? w3 _ r0
      have hx3 := below_then hx2 hb3
      clear hb3 hR
      go_wp2_with fail
      refine (specL13Thread _ 0 _ x0 x1 A2 A3 A4 n2 c2 n3 c3 n4 c4 s2 s3 s4 (h2.next hx3) (h3.next hx3) (h4.next hx3) (Nat.le_refl _) HB.out).mono ?_
      rintro e w4 ⟨B2, k2, l2, B3, k3, l3', B4, k4, l4, rfl, hcd, hb4⟩
      have q0 := below_cell hb4 r0
      have q1 := below_cell hb4 r1
      have q2 := below_cell hb4 r2
      have q3 := below_cell hb4 r3
      have q4 := below_cell hb4 r4
      have qf : ∀ j, w4.frozen? ⟨w.heap.size + 1, j, none⟩ = false := fun j => below_frozen hb4 hR3 (rf j)
      have hx4 := below_then hx3 hb4
      clear p0 p1 p2 p3 p4 r0 r1 r2 r3 r4 rf hb4
      have hxs := hx3.size
      go_wp2_with fail
      refine bodyPost_ret (v := .tuple #[.agg #[.int .i64 x0, .int .i64 x1, .slice B2 k2 l2, .slice B3 k3 l3', .slice B4 k4 l4], .bool true]) (by simp [results, Try.results19, go_sem, q0, q1, q2, q3, q4, qf]) rfl ?_
      refine RetRO.toS ?_
      refine RetRO.mk (hcd.fr (G := [w.heap.size + 1]) (by (repeat (first | with_reducible exact Fr.refl _ _ | with_reducible assumption | ((with_reducible refine Fr.setCell ?_ ?_ _); rotate_left; (· first | (simp; done) | assumption | (simp; assumption))) | with_reducible refine Fr.drewN ?_ _ | with_reducible refine Fr.drew ?_ | with_reducible refine Fr.alloc ?_ _ | with_reducible refine Fr.trans ?_ (Fr.of_below (by with_reducible assumption))))) (by first | omega | (simp; done) | (simp; omega))) hxs j2 (fun x hx => ?_) j4 (by (repeat (first | with_reducible exact Below.refl _ _ | with_reducible assumption | with_reducible refine below_alloc ?_ _ | ((with_reducible refine Below.setCell ?_ ?_ _); rotate_left; (· first | exact Nat.le_refl _ | (simp; done) | (simp; omega))) | with_reducible refine below_drewN ?_ _ | with_reducible refine Below.drew ?_ | with_reducible refine below_then ?_ (by with_reducible assumption))))
      obtain ⟨y, hy, rfl⟩ := List.mem_map.1 hx
      exact thrI_ok HG.out (by omega) hy (j3 y hy)
end Go.Proofs.Ytapnglgbejfkjaa
