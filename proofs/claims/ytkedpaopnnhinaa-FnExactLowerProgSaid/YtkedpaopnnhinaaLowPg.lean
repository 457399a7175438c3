/- LowerProg: walks of both sides. -/
import Derived.Test.YtkedpaopnnhinaaLowH
import Derived.Test.YtkedpaopnnhinaaTyIm
import Derived.Test.YtkedpaopnnhinaaKit1
set_option linter.unusedVariables false
set_option linter.unusedSimpArgs false
set_option maxRecDepth 100000
namespace Go.Proofs.Ytkedpaopnnhinaa
open Go.RowKit
def lowI (fs : List Func) : List Code := if goodP fs = true then fs.map lowF else []
theorem lowI_yes {fs : List Func} (h : goodP fs = true) : lowI fs = fs.map lowF := if_pos h
theorem lowI_no {fs : List Func} (h : goodP fs = false) : lowI fs = [] := if_neg (by simp [h])
theorem lowF_sz {f : Func} (h : LowF f) : mszCode (lowF f) ≤ 300 := by
  have h1 := lowF_len h
  have h3 := h.sites
  have h4 : (lowF f).2.2.1.length ≤ 4 := by unfold lowF; simpa using h3
  have h5 : (lowF f).2.2.2.2.length ≤ 5 := by unfold lowF padR; simp; omega
  unfold mszCode
  omega
theorem lowI_sz (fs : List Func) : mszLCode (lowI fs) ≤ 2000 := by
  by_cases h : goodP fs = true
  · rw [lowI_yes h]
    obtain ⟨h1, h2⟩ := goodP_low h
    have key : ∀ l : List Func, (∀ f, f ∈ l → LowF f) → ((l.map lowF).map mszCode).sum ≤ 300 * l.length := by
      intro l
      induction l with
      | nil => intro _; simp
      | cons f l ih =>
        intro hl
        have a := ih fun g hg => hl g (List.mem_cons_of_mem _ hg)
        have b := lowF_sz (hl f (List.mem_cons_self ..))
        simp only [List.map_cons, List.sum_cons, List.length_cons] at a ⊢; omega
    have := key fs h2
    unfold mszLCode
    rw [List.length_map]; omega
  · rw [lowI_no (by simpa using h)]; simp [mszLCode]
theorem takeF_succ {fs : List Func} {k : Nat} {f : Func} (hk : k < fs.length) (h : fs[k] = f) : (fs.take (k + 1)).map lowF = (fs.take k).map lowF ++ [lowF f] := by rw [List.take_succ_eq_append_getElem hk, List.map_append, h]; rfl
theorem Code_relI {w : World} {lo hi : Nat} {x0 x1 : Int} {A2 : Option Addr} {n2 c2 : Nat} {s2 : List Int} {A3 : Option Addr} {n3 c3 : Nat} {s3 : List Ins} {A4 : Option Addr} {n4 c4 : Nat} {s4 : List Row} (i0 : I64 x0) (i1 : I64 x1) (h2 : Sl intR w lo hi A2 n2 c2 s2) (h3 : Sl InsR w lo hi A3 n3 c3 s3) (h4 : Sl RowR w lo hi A4 n4 c4 s4) :
    CodeR.rel w lo hi [.int .i64 x0, .int .i64 x1, .slice A2 n2 c2, .slice A3 n3 c3, .slice A4 n4 c4] (x0, x1, s2, s3, s4) :=
  ⟨[_], [_, _, _, _], rfl, ⟨rfl, i0⟩, [_], [_, _, _], rfl, ⟨rfl, i1⟩, [_], [_, _], rfl, ⟨A2, n2, c2, rfl, h2⟩, [_], [_], rfl, ⟨A3, n3, c3, rfl, h3⟩, ⟨A4, n4, c4, rfl, h4⟩⟩
theorem code_one {x0 x1 : Int} {A2 A3 A4 : Option Addr} {n2 c2 n3 c3 n4 c4 : Nat} : ∀ u ∈ ([.int .i64 x0, .int .i64 x1, .slice A2 n2 c2, .slice A3 n3 c3, .slice A4 n4 c4] : List Value), u.oneCell' = true := by
  intro u hu; simp at hu; rcases hu with rfl | rfl | rfl | rfl | rfl <;> rfl
theorem Try.infoCode2 : (Try.prog.info? 44).map (fun i => (i.zero, i.size, i.bytes)) = some (some (.agg #[.int .i64 0, .int .i64 0, .slice none 0 0, .slice none 0 0, .slice none 0 0]), 5, 88) := by kernel_rfl
/-- The call returns an image in memory of its own, and whether it is one. -/
def RetImO (s : List Code) (b : Bool) (w : World) (e : Ending) (w' : World) : Prop :=
  ∃ A0 n0 c0 F0, e = .returned (.tuple #[.agg #[.slice A0 n0 c0], .bool b]) ∧ OwnSl CodeR w' 44 F0 (.slice A0 n0 c0) s ∧ F0.Nodup ∧ (∀ k, k ∈ F0 → w.heap.size ≤ k) ∧ Below w.heap.size w w'
def RetImS (s : List Code) (b : Bool) (w : World) (e : Ending) (w' : World) : Prop :=
  ∃ A0 n0 c0, e = .returned (.tuple #[.agg #[.slice A0 n0 c0], .bool b]) ∧ Sl CodeR w' 0 w'.heap.size A0 n0 c0 s ∧ Below w.heap.size w w'
set_option maxHeartbeats 4000000 in
theorem implLowerProg1 (w : World) (lo hi : Nat) (A : Option Addr) (n c : Nat) (fs : List Func) (h : Sl FuncR w lo hi A n c fs) (hh : hi ≤ w.heap.size) (hg : goodP fs = true) :
    Calls Try.prog 145 #[.agg #[.slice A n c]] w (RetImO (fs.map lowF) true w) := by
  have e1 := Lib.hid h.lenEq
  obtain ⟨⟨_, hn5⟩, hlow⟩ := goodP_low hg
  have HLO := Lib.hid hlow
  have hn : n ≤ 5 := by have := e1.out; omega
  obtain ⟨inf, hif, hz0, hz1, hz2⟩ := info_parts Try.infoCode2
  have HIF := Lib.hid hif
  have HZ0 := Lib.hid hz0
  have HZ1 := Lib.hid hz1
  have HZ2 := Lib.hid hz2
  clear hlow hg hn5 hif hz0 hz1 hz2
  go_enter Try.func145, Try.ntmps145
  go_wp2_with fail
  go_loopw [12] (fun i wr => ∃ (k : Nat) (v : Value) (F : List Nat), k ≤ n ∧ i = .int .i64 k ∧ OwnSl CodeR wr 44 F v ((fs.take k).map lowF) ∧ (∀ j, j ∈ F → w.heap.size + 2 < j) ∧ wr.cell? ⟨w.heap.size + 2, 0, none⟩ = some v ∧ wr.cell? ⟨w.heap.size + 1, 0, none⟩ = some (.slice none 0 0) ∧ wr.frozen? ⟨w.heap.size + 2, 0, none⟩ = false ∧ wr.frozen? ⟨w.heap.size + 1, 0, none⟩ = false ∧ Below w.heap.size w wr) (fun i _ => n - (intOf i).toNat)
  case atStart => exact ⟨0, .slice none 0 0, [], Nat.zero_le _, rfl, OwnSl.nil_ _ _ _, by simp, by simp [go_sem], by simp [go_sem], by simp [go_sem], by simp [go_sem], by (repeat (first | with_reducible exact Below.refl _ _ | with_reducible assumption | with_reducible refine below_alloc ?_ _ | ((with_reducible refine Below.setCell ?_ ?_ _); rotate_left; (· first | exact Nat.le_refl _ | (simp; done) | (simp; omega))) | with_reducible refine below_drewN ?_ _ | with_reducible refine Below.drew ?_ | with_reducible refine below_then ?_ (by with_reducible assumption)))⟩
  case round =>
    obtain ⟨k, v, F, hk, rfl, ho, hF, kx, kr, kfx, kfr, hb⟩ := hrel
    have hzx : w.heap.size + 2 < wr.heap.size := World.block_lt_of_cell? wr _ kx
    by_cases hlt : k < n
    · obtain ⟨bp, op, x0, x1, Ab, nb, cb, body, B, m, d, ss, rfl, _, _, hl0, i0, i1, hbd, hs, d0, d1, d2, d3⟩ := Func_at (h.below hb hh) hlt
      have hlf := HLO.out _ (List.getElem_mem (by have := e1.out; omega : k < fs.length))
      rw [hl0] at hlf
      have HLF := Lib.hid hlf
      have HS := Lib.hid (takeF_succ (by have := e1.out; omega) hl0)
      have hlen := Lib.hid (show ((fs.take k).map lowF).length = k by have := e1.out; simp; omega)
      obtain ⟨ls, hls⟩ : ∃ ls, (fs.take k).map lowF = ls := ⟨_, rfl⟩
      rw [hls] at ho hlen HS
      clear hl0 hlf hls
      go_wp2_with fail
      have hcall := implLowerFunc (wr.alloc (.cells #[.int .i64 x0, .int .i64 x1, .slice Ab nb cb, .slice B m d] 173)) lo hi x0 x1 Ab nb cb body B m d ss (hbd.below (Below.alloc (Below.refl _ _) (Nat.le_refl _) _) (by omega)) (hs.below (Below.alloc (Below.refl _ _) (Nat.le_refl _) _) (by omega)) (by simp; omega) HLF.out i0 i1
      generalize hlc : lowF (x0, x1, body, ss) = lc at hcall
      have ic0 : I64 lc.1 := by rw [← hlc]; exact i0
      have ic1 : I64 lc.2.1 := by rw [← hlc]; exact i1
      rw [hlc] at HS
      clear hlc
      obtain ⟨z0, z1, zs, zi, zr⟩ := lc
      simp only at ic0 ic1
      refine hcall.mono ?_
      clear hcall
      rintro e w5 ⟨A2, n2, c2, A3, n3, c3, A4, n4, c4, F2, F3, F4, rfl, s2, s3, s4, snd, sF, hb5⟩
      have hx5 : Below wr.heap.size wr w5 := by (repeat (first | with_reducible exact Below.refl _ _ | with_reducible assumption | with_reducible refine below_alloc ?_ _ | ((with_reducible refine Below.setCell ?_ ?_ _); rotate_left; (· first | exact Nat.le_refl _ | (simp; done) | (simp; omega))) | with_reducible refine below_drewN ?_ _ | with_reducible refine Below.drew ?_ | with_reducible refine below_then ?_ (by with_reducible assumption)))
      have hz5 := hx5.size
      have o5 := ho.below hx5
      have sF' : ∀ k, k ∈ F2 ++ (F3 ++ F4) → wr.heap.size ≤ k := fun k hk => by have := sF k hk; simp at this; omega
      have hdj : ∀ k, k ∈ F2 ++ (F3 ++ F4) → k ∉ F := fun k hk hf => by have := sF' k hk; have := ho.lt k hf; omega
      have hC := Code_own s2 s3 s4 ic0 ic1 snd
      obtain ⟨Fc, hFc⟩ : ∃ Fc, Fc = F2 ++ (F3 ++ F4) := ⟨_, rfl⟩
      rw [← hFc] at hC sF' hdj
      replace kx := below_cell hx5 kx
      replace kr := below_cell hx5 kr
      have kfx5 : w5.frozen? ⟨w.heap.size + 2, 0, none⟩ = false := (hx5.frozen (p := ⟨w.heap.size + 2, 0, none⟩) hzx).trans kfx
      have kfr5 : w5.frozen? ⟨w.heap.size + 1, 0, none⟩ = false := (hx5.frozen (p := ⟨w.heap.size + 1, 0, none⟩) (show w.heap.size + 1 < wr.heap.size by omega)).trans kfr
      have hzx5 : w.heap.size + 2 < w5.heap.size := by omega
      have hb5' := below_then hb hx5
      have l5 : ∀ k, k ∈ Fc → k < w5.heap.size := CodeR.ownLt hC
      clear hFc snd sF s2 s3 s4 ho hb5 kfx kfr
      go_wp2_with (at_builtin; refine wpl_own1 _ rfl _ _ 96 rfl CodeR 44 inf (.agg #[.int .i64 0, .int .i64 0, .slice none 0 0, .slice none 0 0, .slice none 0 0]) 5 88 Try.underlying96 HIF.out HZ0.out HZ1.out HZ2.out rfl rfl (by decide) v k ls F rfl hlen.out (o5.below (show Below w5.heap.size w5 _ by (repeat (first | with_reducible exact Below.refl _ _ | with_reducible assumption | with_reducible refine below_alloc ?_ _ | ((with_reducible refine Below.setCell ?_ ?_ _); rotate_left; (· first | exact Nat.le_refl _ | (simp; done) | (simp; omega))) | with_reducible refine below_drewN ?_ _ | with_reducible refine Below.drew ?_ | with_reducible refine below_then ?_ (by with_reducible assumption))))) ⟨w5.heap.size + 1, 0, none⟩ 1 [.int .i64 z0, .int .i64 z1, .slice A2 n2 c2, .slice A3 n3 c3, .slice A4 n4 c4] (z0, z1, zs, zi, zr) Fc rfl (cells_new _ _ _ (by simp)) (CodeR.ownKeep (fun k hk => (show Below w5.heap.size w5 _ by (repeat (first | with_reducible exact Below.refl _ _ | with_reducible assumption | with_reducible refine below_alloc ?_ _ | ((with_reducible refine Below.setCell ?_ ?_ _); rotate_left; (· first | exact Nat.le_refl _ | (simp; done) | (simp; omega))) | with_reducible refine below_drewN ?_ _ | with_reducible refine Below.drew ?_ | with_reducible refine below_then ?_ (by with_reducible assumption)))).block k (l5 k hk)) hC) code_one hdj (by omega) (by decide) ?_)
      intro v' w6 F' ho6 hg6 hF6
      have hvB : ∀ g, v.ownBlock = some g → w.heap.size + 2 < g := fun g hg => hF g (o5.ownB g hg)
      have hm6 : Below w5.heap.size w5 ((w5.alloc (.cells #[.int .i64 z0, .int .i64 z1, .slice A2 n2 c2, .slice A3 n3 c3, .slice A4 n4 c4] 44)).alloc (.cells #[.int .i64 z0, .int .i64 z1, .slice A2 n2 c2, .slice A3 n3 c3, .slice A4 n4 c4] 44)) := by (repeat (first | with_reducible exact Below.refl _ _ | with_reducible assumption | with_reducible refine below_alloc ?_ _ | ((with_reducible refine Below.setCell ?_ ?_ _); rotate_left; (· first | exact Nat.le_refl _ | (simp; done) | (simp; omega))) | with_reducible refine below_drewN ?_ _ | with_reducible refine Below.drew ?_ | with_reducible refine below_then ?_ (by with_reducible assumption)))
      have hms : w5.heap.size ≤ _ := hm6.size
      obtain ⟨A6, n6, c6, hv6, hn6⟩ := ho6.form
      clear hn6
      subst hv6
      have hk6 : ∀ b, b ≤ w.heap.size + 2 → w6.heap[b]? = w5.heap[b]? := fun b hb => (hg6.block b (by omega) (fun e => by have := hvB b e.symm; omega)).trans (hm6.block b (by omega))
      have hb6 : Below w.heap.size w w6 := ⟨hg6.os.trans (hm6.os.trans hb5'.os), hg6.tape.trans (hm6.tape.trans hb5'.tape), hg6.output.trans (hm6.output.trans hb5'.output), by have := hg6.size; have := hb5'.size; omega, fun b hb => (hk6 b (by omega)).trans (hb5'.block b hb)⟩
      have kx6 : w6.cell? ⟨w.heap.size + 2, 0, none⟩ = some v := (World.cell?_of_block (w := w5) (a := ⟨w.heap.size + 2, 0, none⟩) (hk6 _ (Nat.le_refl _))).trans kx
      have kr6 : w6.cell? ⟨w.heap.size + 1, 0, none⟩ = some (.slice none 0 0) := (World.cell?_of_block (w := w5) (a := ⟨w.heap.size + 1, 0, none⟩) (hk6 _ (show w.heap.size + 1 ≤ w.heap.size + 2 by omega))).trans kr
      have kfx6 : w6.frozen? ⟨w.heap.size + 2, 0, none⟩ = false := (World.frozen?_of_block (w := w5) (a := ⟨w.heap.size + 2, 0, none⟩) (hk6 _ (Nat.le_refl _))).trans kfx5
      have kfr6 : w6.frozen? ⟨w.heap.size + 1, 0, none⟩ = false := (World.frozen?_of_block (w := w5) (a := ⟨w.heap.size + 1, 0, none⟩) (hk6 _ (show w.heap.size + 1 ≤ w.heap.size + 2 by omega))).trans kfr5
      have hF6' : ∀ j, j ∈ F' → w.heap.size + 2 < j := fun j hj => by
        rcases hF6 j hj with hj | hj | hj
        · exact hF j hj
        · have := sF' j hj; omega
        · have hms2 := hms; omega
      have ho7 : OwnSl CodeR (w6.setCell ⟨w.heap.size + 2, 0, none⟩ (.slice A6 n6 c6)) 44 F' (.slice A6 n6 c6) ((fs.take (k + 1)).map lowF) := by
        rw [HS.out]
        exact ho6.keep fun j hj => Below.heap_setCell _ _ _ _ (by have := hF6' j hj; show j ≠ w.heap.size + 2; omega)
      clear hk6 hm6 hg6 ho6 hF6 hb5' kx kr kfx5 kfr5 hC hdj l5 sF' hvB
      go_wp2_with fail
      go_roundw
      case rel => exact ⟨k + 1, _, F', by omega, by go_num, ho7, hF6', by simp [go_sem, kx6], by simp [go_sem, kr6], by simp [go_sem, kfx6], by simp [go_sem, kfr6], by (repeat (first | with_reducible exact Below.refl _ _ | with_reducible assumption | with_reducible refine below_alloc ?_ _ | ((with_reducible refine Below.setCell ?_ ?_ _); rotate_left; (· first | exact Nat.le_refl _ | (simp; done) | (simp; omega))) | with_reducible refine below_drewN ?_ _ | with_reducible refine Below.drew ?_ | with_reducible refine below_then ?_ (by with_reducible assumption)))⟩
      case measure => simp [intOf]; omega
    · have hfin := ho
      rw [List.take_of_length_le (by have := e1.out; omega)] at hfin
      obtain ⟨A0, n0, c0, rfl, hn0⟩ := hfin.form
      have hnd := hfin.nodup
      clear ho hn0
      go_wp2_with fail
      refine bodyPost_ret (v := .tuple #[.agg #[.slice A0 n0 c0], .bool true]) (by simp [results, Try.results145, go_sem, kr]) rfl ?_
      exact ⟨A0, n0, c0, F, rfl, hfin.keep (fun j hj => Below.heap_setCell _ _ _ _ (by have := hF j hj; show j ≠ w.heap.size + 1; omega)), hnd, fun j hj => by have := hF j hj; omega, by (repeat (first | with_reducible exact Below.refl _ _ | with_reducible assumption | with_reducible refine below_alloc ?_ _ | ((with_reducible refine Below.setCell ?_ ?_ _); rotate_left; (· first | exact Nat.le_refl _ | (simp; done) | (simp; omega))) | with_reducible refine below_drewN ?_ _ | with_reducible refine Below.drew ?_ | with_reducible refine below_then ?_ (by with_reducible assumption)))⟩
theorem implLowerProg2 (w : World) (lo hi : Nat) (A : Option Addr) (n c : Nat) (fs : List Func) (h : Sl FuncR w lo hi A n c fs) (hh : hi ≤ w.heap.size) (hm : mszLFunc fs ≤ 1048576) :
    Calls Try.prog 67 #[.agg #[.slice A n c]] w (RetImO (lowI fs) (goodP fs) w) := by
  generalize hg0 : goodP fs = g
  have hg := Lib.hid hg0
  clear hg0
  cases g
  · rw [lowI_no hg.out]
    go_enter Try.func67, Try.ntmps67
    go_wp2_with fail
    refine (implIsProg _ lo hi A n c fs (h.below (show Below w.heap.size w _ by (repeat (first | with_reducible exact Below.refl _ _ | with_reducible assumption | with_reducible refine below_alloc ?_ _ | ((with_reducible refine Below.setCell ?_ ?_ _); rotate_left; (· first | exact Nat.le_refl _ | (simp; done) | (simp; omega))) | with_reducible refine below_drewN ?_ _ | with_reducible refine Below.drew ?_ | with_reducible refine below_then ?_ (by with_reducible assumption)))) hh) (by first | omega | (simp; done) | (simp; omega)) hm).mono ?_
    rintro e w2 ⟨rfl, hb2⟩
    rw [hg.out]
    have hx2 : Below w.heap.size w w2 := by (repeat (first | with_reducible exact Below.refl _ _ | with_reducible assumption | with_reducible refine below_alloc ?_ _ | ((with_reducible refine Below.setCell ?_ ?_ _); rotate_left; (· first | exact Nat.le_refl _ | (simp; done) | (simp; omega))) | with_reducible refine below_drewN ?_ _ | with_reducible refine Below.drew ?_ | with_reducible refine below_then ?_ (by with_reducible assumption)))
    obtain ⟨hcE, hfE⟩ := bcell hb2
    have p0 : w2.cell? ⟨w.heap.size, 0, none⟩ = some (.slice A n c) := by simp [hcE, go_sem]
    have r0 : w2.cell? ⟨w.heap.size + 1, 0, none⟩ = some (.slice none 0 0) := by simp [hcE, go_sem]
    have rf : w2.frozen? ⟨w.heap.size + 1, 0, none⟩ = false := by simp [hfE, go_sem]
    have hR2 : w.heap.size + 1 < w2.heap.size := World.block_lt_of_cell? w2 _ r0
    clear hcE hfE hb2
    go_wp2_with fail
    refine bodyPost_ret (v := .tuple #[.agg #[.slice none 0 0], .bool false]) (by simp [results, Try.results67, go_sem, r0]) rfl ?_
    exact ⟨none, 0, 0, [], rfl, OwnSl.nil_ _ _ _, by simp, by simp, by (repeat (first | with_reducible exact Below.refl _ _ | with_reducible assumption | with_reducible refine below_alloc ?_ _ | ((with_reducible refine Below.setCell ?_ ?_ _); rotate_left; (· first | exact Nat.le_refl _ | (simp; done) | (simp; omega))) | with_reducible refine below_drewN ?_ _ | with_reducible refine Below.drew ?_ | with_reducible refine below_then ?_ (by with_reducible assumption)))⟩
  · rw [lowI_yes hg.out]
    go_enter Try.func67, Try.ntmps67
    go_wp2_with fail
    refine (implIsProg _ lo hi A n c fs (h.below (show Below w.heap.size w _ by (repeat (first | with_reducible exact Below.refl _ _ | with_reducible assumption | with_reducible refine below_alloc ?_ _ | ((with_reducible refine Below.setCell ?_ ?_ _); rotate_left; (· first | exact Nat.le_refl _ | (simp; done) | (simp; omega))) | with_reducible refine below_drewN ?_ _ | with_reducible refine Below.drew ?_ | with_reducible refine below_then ?_ (by with_reducible assumption)))) hh) (by first | omega | (simp; done) | (simp; omega)) hm).mono ?_
    rintro e w2 ⟨rfl, hb2⟩
    rw [hg.out]
    have hx2 : Below w.heap.size w w2 := by (repeat (first | with_reducible exact Below.refl _ _ | with_reducible assumption | with_reducible refine below_alloc ?_ _ | ((with_reducible refine Below.setCell ?_ ?_ _); rotate_left; (· first | exact Nat.le_refl _ | (simp; done) | (simp; omega))) | with_reducible refine below_drewN ?_ _ | with_reducible refine Below.drew ?_ | with_reducible refine below_then ?_ (by with_reducible assumption)))
    obtain ⟨hcE, hfE⟩ := bcell hb2
    have p0 : w2.cell? ⟨w.heap.size, 0, none⟩ = some (.slice A n c) := by simp [hcE, go_sem]
    have r0 : w2.cell? ⟨w.heap.size + 1, 0, none⟩ = some (.slice none 0 0) := by simp [hcE, go_sem]
    have rf : w2.frozen? ⟨w.heap.size + 1, 0, none⟩ = false := by simp [hfE, go_sem]
    have hR2 : w.heap.size + 1 < w2.heap.size := World.block_lt_of_cell? w2 _ r0
    have hzz := hx2.size
    clear hcE hfE hb2
    go_wp2_with fail
    refine (implLowerProg1 w2 lo hi A n c fs (h.below hx2 hh) (by omega) hg.out).mono ?_
    rintro e w5 ⟨A0, n0, c0, F0, rfl, o0, nd, hF, hb5⟩
    have hzF := o0.lt
    have hx5 := below_then hx2 hb5
    have r5 := below_cell hb5 r0
    have rf5 : w5.frozen? ⟨w.heap.size + 1, 0, none⟩ = false := (hb5.frozen (p := ⟨w.heap.size + 1, 0, none⟩) hR2).trans rf
    have hR5 : w.heap.size + 1 < w5.heap.size := World.block_lt_of_cell? w5 _ r5
    clear hb5
    go_wp2_with fail
    refine bodyPost_ret (v := .tuple #[.agg #[.slice A0 n0 c0], .bool true]) (by simp [results, Try.results67, go_sem, r5]) rfl ?_
    exact ⟨A0, n0, c0, F0, rfl, o0.keep (fun j hj => Below.heap_setCell _ _ _ _ (by have := hF j hj; show j ≠ w.heap.size + 1; omega)), nd, fun j hj => by have := hF j hj; omega, by (repeat (first | with_reducible exact Below.refl _ _ | with_reducible assumption | with_reducible refine below_alloc ?_ _ | ((with_reducible refine Below.setCell ?_ ?_ _); rotate_left; (· first | exact Nat.le_refl _ | (simp; done) | (simp; omega))) | with_reducible refine below_drewN ?_ _ | with_reducible refine Below.drew ?_ | with_reducible refine below_then ?_ (by with_reducible assumption)))⟩
set_option maxHeartbeats 4000000 in
theorem specLowerProg2 (w : World) (lo hi : Nat) (A : Option Addr) (n c : Nat) (fs : List Func) (h : Sl FuncR w lo hi A n c fs) (hh : hi ≤ w.heap.size) (hm : mszLFunc fs ≤ 1048576) :
    Calls Try.prog 66 #[.agg #[.slice A n c]] w (RetImS (lowI fs) (goodP fs) w) := by
  generalize hg0 : goodP fs = g
  have hg := Lib.hid hg0
  clear hg0
  cases g
  · rw [lowI_no hg.out]
    go_enter Try.func66, Try.ntmps66
    go_wp2_with fail
    refine (specGoodProg _ lo hi A n c fs (h.below (show Below w.heap.size w _ by (repeat (first | with_reducible exact Below.refl _ _ | with_reducible assumption | with_reducible refine below_alloc ?_ _ | ((with_reducible refine Below.setCell ?_ ?_ _); rotate_left; (· first | exact Nat.le_refl _ | (simp; done) | (simp; omega))) | with_reducible refine below_drewN ?_ _ | with_reducible refine Below.drew ?_ | with_reducible refine below_then ?_ (by with_reducible assumption)))) hh) (by first | omega | (simp; done) | (simp; omega)) hm).mono ?_
    rintro e w2 ⟨rfl, hb2⟩
    rw [hg.out]
    have hx2 : Below w.heap.size w w2 := by (repeat (first | with_reducible exact Below.refl _ _ | with_reducible assumption | with_reducible refine below_alloc ?_ _ | ((with_reducible refine Below.setCell ?_ ?_ _); rotate_left; (· first | exact Nat.le_refl _ | (simp; done) | (simp; omega))) | with_reducible refine below_drewN ?_ _ | with_reducible refine Below.drew ?_ | with_reducible refine below_then ?_ (by with_reducible assumption)))
    obtain ⟨hcE, hfE⟩ := bcell hb2
    have p0 : w2.cell? ⟨w.heap.size, 0, none⟩ = some (.slice A n c) := by simp [hcE, go_sem]
    have r0 : w2.cell? ⟨w.heap.size + 1, 0, none⟩ = some (.slice none 0 0) := by simp [hcE, go_sem]
    have rf : w2.frozen? ⟨w.heap.size + 1, 0, none⟩ = false := by simp [hfE, go_sem]
    have hR2 : w.heap.size + 1 < w2.heap.size := World.block_lt_of_cell? w2 _ r0
    clear hcE hfE hb2
    go_wp2_with fail
    refine bodyPost_ret (v := .tuple #[.agg #[.slice none 0 0], .bool false]) (by simp [results, Try.results66, go_sem, r0]) rfl ?_
    exact ⟨none, 0, 0, rfl, Sl.nil_ _ _ _ _, by (repeat (first | with_reducible exact Below.refl _ _ | with_reducible assumption | with_reducible refine below_alloc ?_ _ | ((with_reducible refine Below.setCell ?_ ?_ _); rotate_left; (· first | exact Nat.le_refl _ | (simp; done) | (simp; omega))) | with_reducible refine below_drewN ?_ _ | with_reducible refine Below.drew ?_ | with_reducible refine below_then ?_ (by with_reducible assumption)))⟩
  · rw [lowI_yes hg.out]
    have e1 := Lib.hid h.lenEq
    obtain ⟨⟨_, hn5⟩, hlow⟩ := goodP_low hg.out
    have HLO := Lib.hid hlow
    have hn : n ≤ 5 := by have := e1.out; omega
    obtain ⟨inf, hif, hz0, hz1, hz2⟩ := info_parts Try.infoCode2
    have HIF := Lib.hid hif
    have HZ0 := Lib.hid hz0
    have HZ1 := Lib.hid hz1
    have HZ2 := Lib.hid hz2
    clear hlow hn5 hif hz0 hz1 hz2
    go_enter Try.func66, Try.ntmps66
    go_wp2_with fail
    refine (specGoodProg _ lo hi A n c fs (h.below (show Below w.heap.size w _ by (repeat (first | with_reducible exact Below.refl _ _ | with_reducible assumption | with_reducible refine below_alloc ?_ _ | ((with_reducible refine Below.setCell ?_ ?_ _); rotate_left; (· first | exact Nat.le_refl _ | (simp; done) | (simp; omega))) | with_reducible refine below_drewN ?_ _ | with_reducible refine Below.drew ?_ | with_reducible refine below_then ?_ (by with_reducible assumption)))) hh) (by first | omega | (simp; done) | (simp; omega)) hm).mono ?_
    rintro e w2 ⟨rfl, hb2⟩
    rw [hg.out]
    have hx2 : Below w.heap.size w w2 := by (repeat (first | with_reducible exact Below.refl _ _ | with_reducible assumption | with_reducible refine below_alloc ?_ _ | ((with_reducible refine Below.setCell ?_ ?_ _); rotate_left; (· first | exact Nat.le_refl _ | (simp; done) | (simp; omega))) | with_reducible refine below_drewN ?_ _ | with_reducible refine Below.drew ?_ | with_reducible refine below_then ?_ (by with_reducible assumption)))
    obtain ⟨hcE, hfE⟩ := bcell hb2
    have p0 : w2.cell? ⟨w.heap.size, 0, none⟩ = some (.slice A n c) := by simp [hcE, go_sem]
    have r0 : w2.cell? ⟨w.heap.size + 1, 0, none⟩ = some (.slice none 0 0) := by simp [hcE, go_sem]
    have rf : w2.frozen? ⟨w.heap.size + 1, 0, none⟩ = false := by simp [hfE, go_sem]
    have hR2 : w.heap.size + 1 < w2.heap.size := World.block_lt_of_cell? w2 _ r0
    clear hcE hfE hb2
    have hzw : w.heap.size < w2.heap.size := by omega
    obtain ⟨X, hX⟩ : ∃ X, X = w2.heap.size := ⟨_, rfl⟩
    go_wp2_with fail
    rw [← hX]
    go_loopw [14] (fun i wr => ∃ (k : Nat) (v : Value) (F : List Nat), k ≤ n ∧ i = .int .i64 k ∧ OwnSl (spanR CodeR) wr 44 F v ((fs.take k).map lowF) ∧ (∀ j, j ∈ F → X < j) ∧ wr.cell? ⟨X, 0, none⟩ = some v ∧ wr.cell? ⟨w.heap.size, 0, none⟩ = some (.slice A n c) ∧ wr.cell? ⟨w.heap.size + 1, 0, none⟩ = some (.slice none 0 0) ∧ wr.frozen? ⟨X, 0, none⟩ = false ∧ wr.frozen? ⟨w.heap.size + 1, 0, none⟩ = false ∧ Below w.heap.size w wr) (fun i _ => n - (intOf i).toNat)
    case atStart =>
      subst hX
      exact ⟨0, .slice none 0 0, [], Nat.zero_le _, rfl, OwnSl.nil_ _ _ _, by simp, by simp [go_sem], below_cell (w := w2) (by (repeat (first | with_reducible exact Below.refl _ _ | with_reducible assumption | with_reducible refine below_alloc ?_ _ | ((with_reducible refine Below.setCell ?_ ?_ _); rotate_left; (· first | exact Nat.le_refl _ | (simp; done) | (simp; omega))) | with_reducible refine below_drewN ?_ _ | with_reducible refine Below.drew ?_ | with_reducible refine below_then ?_ (by with_reducible assumption)))) p0, below_cell (w := w2) (by (repeat (first | with_reducible exact Below.refl _ _ | with_reducible assumption | with_reducible refine below_alloc ?_ _ | ((with_reducible refine Below.setCell ?_ ?_ _); rotate_left; (· first | exact Nat.le_refl _ | (simp; done) | (simp; omega))) | with_reducible refine below_drewN ?_ _ | with_reducible refine Below.drew ?_ | with_reducible refine below_then ?_ (by with_reducible assumption)))) r0, by simp [go_sem], ((show Below w2.heap.size w2 _ by (repeat (first | with_reducible exact Below.refl _ _ | with_reducible assumption | with_reducible refine below_alloc ?_ _ | ((with_reducible refine Below.setCell ?_ ?_ _); rotate_left; (· first | exact Nat.le_refl _ | (simp; done) | (simp; omega))) | with_reducible refine below_drewN ?_ _ | with_reducible refine Below.drew ?_ | with_reducible refine below_then ?_ (by with_reducible assumption)))).frozen (p := ⟨w.heap.size + 1, 0, none⟩) hR2).trans rf, by (repeat (first | with_reducible exact Below.refl _ _ | with_reducible assumption | with_reducible refine below_alloc ?_ _ | ((with_reducible refine Below.setCell ?_ ?_ _); rotate_left; (· first | exact Nat.le_refl _ | (simp; done) | (simp; omega))) | with_reducible refine below_drewN ?_ _ | with_reducible refine Below.drew ?_ | with_reducible refine below_then ?_ (by with_reducible assumption)))⟩
    case round =>
      have hXw : w.heap.size + 1 < X := by omega
      clear hX
      obtain ⟨k, v, F, hk, rfl, ho, hF, kx, kp, kr, kfx, kfr, hb⟩ := hrel
      have hzx : X < wr.heap.size := World.block_lt_of_cell? wr _ kx
      by_cases hlt : k < n
      · have hkl : k < fs.length := by have := e1.out; omega
        have hlf := HLO.out _ (List.getElem_mem hkl)
        have HS := Lib.hid (takeF_succ hkl rfl)
        have hlen := Lib.hid (show ((fs.take k).map lowF).length = k by have := e1.out; simp; omega)
        have hll := Lib.hid (lowF_len hlf)
        obtain ⟨ls, hls⟩ : ∃ ls, (fs.take k).map lowF = ls := ⟨_, rfl⟩
        rw [hls] at ho hlen HS
        have hcall := specL6Func wr lo hi A n c fs k (h.below hb hh) (by omega) hlt hlf
        generalize hlc : lowF (fs[k]'hkl) = lc at hcall HS hll
        have ic0 : I64 lc.1 := by rw [← hlc]; have := hlf.par; unfold I64; unfold lowF; simp only; omega
        have ic1 : I64 lc.2.1 := by rw [← hlc]; have := hlf.par; have := hlf.vars; unfold I64; unfold lowF; simp only; omega
        clear hlc hls hlf hkl
        obtain ⟨z0, z1, zs, zi, zr⟩ := lc
        simp only at ic0 ic1
        go_wp2_with fail
        refine hcall.mono ?_
        clear hcall
        rintro e w5 ⟨A2, n2, c2, A3, n3, c3, A4, n4, c4, rfl, s2, s3, s4, hx5⟩
        have hz5 := hx5.size
        have hn3 : n3 ≤ 246 := by have := s3.lenEq; have := hll.out; simp only at *; omega
        have hd3 : decide ((n3 : Int) > 300) = false := by simp; omega
        have o5 := ho.below hx5
        replace kx := below_cell hx5 kx
        replace kr := below_cell hx5 kr
        replace kp := below_cell hx5 kp
        have kfx5 : w5.frozen? ⟨X, 0, none⟩ = false := (hx5.frozen (p := ⟨X, 0, none⟩) hzx).trans kfx
        have kfr5 : w5.frozen? ⟨w.heap.size + 1, 0, none⟩ = false := (hx5.frozen (p := ⟨w.heap.size + 1, 0, none⟩) (show w.heap.size + 1 < wr.heap.size by omega)).trans kfr
        have hzx5 : X < w5.heap.size := by omega
        have hb5' := below_then hb hx5
        have hFlt := o5.lt
        have hFlt0 := ho.lt
        clear kfx kfr ho
        go_wp2_with (at_builtin; refine wpl_own1 _ rfl _ _ 96 rfl (spanR CodeR) 44 inf (.agg #[.int .i64 0, .int .i64 0, .slice none 0 0, .slice none 0 0, .slice none 0 0]) 5 88 Try.underlying96 HIF.out HZ0.out HZ1.out HZ2.out rfl rfl (by decide) v k ls F rfl hlen.out (o5.below (show Below w5.heap.size w5 _ by (repeat (first | with_reducible exact Below.refl _ _ | with_reducible assumption | with_reducible refine below_alloc ?_ _ | ((with_reducible refine Below.setCell ?_ ?_ _); rotate_left; (· first | exact Nat.le_refl _ | (simp; done) | (simp; omega))) | with_reducible refine below_drewN ?_ _ | with_reducible refine Below.drew ?_ | with_reducible refine below_then ?_ (by with_reducible assumption))))) ⟨w5.heap.size + 1, 0, none⟩ 1 [.int .i64 z0, .int .i64 z1, .slice A2 n2 c2, .slice A3 n3 c3, .slice A4 n4 c4] (z0, z1, zs, zi, zr) (List.range' wr.heap.size (w5.heap.size + 1 - wr.heap.size)) rfl (cells_new _ _ _ (by simp)) (spanR_own (show wr.heap.size < w5.heap.size + 1 by omega) (by simp) (Code_relI ic0 ic1 ((s2.below (show Below w5.heap.size w5 _ by (repeat (first | with_reducible exact Below.refl _ _ | with_reducible assumption | with_reducible refine below_alloc ?_ _ | ((with_reducible refine Below.setCell ?_ ?_ _); rotate_left; (· first | exact Nat.le_refl _ | (simp; done) | (simp; omega))) | with_reducible refine below_drewN ?_ _ | with_reducible refine Below.drew ?_ | with_reducible refine below_then ?_ (by with_reducible assumption)))) (Nat.le_refl _)).more (Nat.le_refl _) (Nat.le_succ _)) ((s3.below (show Below w5.heap.size w5 _ by (repeat (first | with_reducible exact Below.refl _ _ | with_reducible assumption | with_reducible refine below_alloc ?_ _ | ((with_reducible refine Below.setCell ?_ ?_ _); rotate_left; (· first | exact Nat.le_refl _ | (simp; done) | (simp; omega))) | with_reducible refine below_drewN ?_ _ | with_reducible refine Below.drew ?_ | with_reducible refine below_then ?_ (by with_reducible assumption)))) (Nat.le_refl _)).more (Nat.le_refl _) (Nat.le_succ _)) ((s4.below (show Below w5.heap.size w5 _ by (repeat (first | with_reducible exact Below.refl _ _ | with_reducible assumption | with_reducible refine below_alloc ?_ _ | ((with_reducible refine Below.setCell ?_ ?_ _); rotate_left; (· first | exact Nat.le_refl _ | (simp; done) | (simp; omega))) | with_reducible refine below_drewN ?_ _ | with_reducible refine Below.drew ?_ | with_reducible refine below_then ?_ (by with_reducible assumption)))) (Nat.le_refl _)).more (Nat.le_refl _) (Nat.le_succ _)))) code_one (fun k hk hf => by have := mem_span.1 hk; have := hFlt0 k hf; omega) (by omega) (by decide) ?_)
        intro v' w6 F' ho6 hg6 hF6
        have hvB : ∀ g, v.ownBlock = some g → X < g := fun g hg => hF g (o5.ownB g hg)
        have hm6 : Below w5.heap.size w5 ((w5.alloc (.cells #[.int .i64 z0, .int .i64 z1, .slice A2 n2 c2, .slice A3 n3 c3, .slice A4 n4 c4] 44)).alloc (.cells #[.int .i64 z0, .int .i64 z1, .slice A2 n2 c2, .slice A3 n3 c3, .slice A4 n4 c4] 44)) := by (repeat (first | with_reducible exact Below.refl _ _ | with_reducible assumption | with_reducible refine below_alloc ?_ _ | ((with_reducible refine Below.setCell ?_ ?_ _); rotate_left; (· first | exact Nat.le_refl _ | (simp; done) | (simp; omega))) | with_reducible refine below_drewN ?_ _ | with_reducible refine Below.drew ?_ | with_reducible refine below_then ?_ (by with_reducible assumption)))
        have hms : w5.heap.size ≤ _ := hm6.size
        obtain ⟨A6, n6, c6, hv6, hn6⟩ := ho6.form
        clear hn6
        subst hv6
        have hk6 : ∀ b, b ≤ X → w6.heap[b]? = w5.heap[b]? := fun b hb => (hg6.block b (by omega) (fun e => by have := hvB b e.symm; omega)).trans (hm6.block b (by omega))
        have hb6 : Below w.heap.size w w6 := ⟨hg6.os.trans (hm6.os.trans hb5'.os), hg6.tape.trans (hm6.tape.trans hb5'.tape), hg6.output.trans (hm6.output.trans hb5'.output), by have := hg6.size; have := hb5'.size; omega, fun b hb => (hk6 b (by omega)).trans (hb5'.block b hb)⟩
        have kx6 : w6.cell? ⟨X, 0, none⟩ = some v := (World.cell?_of_block (w := w5) (a := ⟨X, 0, none⟩) (hk6 _ (Nat.le_refl _))).trans kx
        have kp6 : w6.cell? ⟨w.heap.size, 0, none⟩ = some (.slice A n c) := (World.cell?_of_block (w := w5) (a := ⟨w.heap.size, 0, none⟩) (hk6 _ (show w.heap.size ≤ X by omega))).trans kp
        have kr6 : w6.cell? ⟨w.heap.size + 1, 0, none⟩ = some (.slice none 0 0) := (World.cell?_of_block (w := w5) (a := ⟨w.heap.size + 1, 0, none⟩) (hk6 _ (show w.heap.size + 1 ≤ X by omega))).trans kr
        have kfx6 : w6.frozen? ⟨X, 0, none⟩ = false := (World.frozen?_of_block (w := w5) (a := ⟨X, 0, none⟩) (hk6 _ (Nat.le_refl _))).trans kfx5
        have kfr6 : w6.frozen? ⟨w.heap.size + 1, 0, none⟩ = false := (World.frozen?_of_block (w := w5) (a := ⟨w.heap.size + 1, 0, none⟩) (hk6 _ (show w.heap.size + 1 ≤ X by omega))).trans kfr5
        have hF6' : ∀ j, j ∈ F' → X < j := fun j hj => by
          rcases hF6 j hj with hj | hj | hj
          · exact hF j hj
          · obtain ⟨q1, q2⟩ := hj; omega
          · have hms2 := hms; omega
        have ho7 : OwnSl (spanR CodeR) (w6.setCell ⟨X, 0, none⟩ (.slice A6 n6 c6)) 44 F' (.slice A6 n6 c6) ((fs.take (k + 1)).map lowF) := by
          rw [HS.out]
          exact ho6.keep fun j hj => Below.heap_setCell _ _ _ _ (by have := hF6' j hj; show j ≠ X; omega)
        clear hk6 hm6 hg6 ho6 hF6 hb5' kx kr kp kfx5 kfr5 hvB hFlt hFlt0 hd3
        have hne : ¬ w.heap.size = X := by omega
        have hne1 : ¬ w.heap.size + 1 = X := by omega
        go_wp2_with fail
        go_roundw
        case rel => exact ⟨k + 1, _, F', by omega, by go_num, ho7, hF6', by simp [go_sem, kx6], by simp [go_sem, kp6, hne], by simp [go_sem, kr6, hne1], by simp [go_sem, kfx6], by simp [go_sem, kfr6], Below.setCell hb6 (show w.heap.size ≤ X by omega) _⟩
        case measure => simp [intOf]; omega
      · have hfin := ho
        rw [List.take_of_length_le (by have := e1.out; omega)] at hfin
        obtain ⟨A0, n0, c0, rfl, hn0⟩ := hfin.form
        have hsl := span_sl hfin.sl
        clear ho hn0
        go_wp2_with fail
        refine bodyPost_ret (v := .tuple #[.agg #[.slice A0 n0 c0], .bool true]) (by simp [results, Try.results66, go_sem, kr]) rfl ?_
        have hfin2 : OwnSl (spanR CodeR) (wr.setCell ⟨w.heap.size + 1, 0, none⟩ (.slice A0 n0 c0)) 44 F (.slice A0 n0 c0) (fs.map lowF) := hfin.keep (fun j hj => Below.heap_setCell _ _ _ _ (by have := hF j hj; show j ≠ w.heap.size + 1; omega))
        exact ⟨A0, n0, c0, rfl, span_sl hfin2.sl, by (repeat (first | with_reducible exact Below.refl _ _ | with_reducible assumption | with_reducible refine below_alloc ?_ _ | ((with_reducible refine Below.setCell ?_ ?_ _); rotate_left; (· first | exact Nat.le_refl _ | (simp; done) | (simp; omega))) | with_reducible refine below_drewN ?_ _ | with_reducible refine Below.drew ?_ | with_reducible refine below_then ?_ (by with_reducible assumption)))⟩
theorem specLowerProgC (w : World) (A : Option Addr) (n c : Nat) (fs : List Func) (h : Sl FuncR w 0 w.heap.size A n c fs) (hm : mszLFunc fs ≤ 1048576) (s : List Code) (hz : lowI fs = s) (b : Bool) (hb : goodP fs = b) :
    Calls Try.prog 66 #[.agg #[.slice A n c]] w (RetImS s b w) := by
  subst hz hb; exact specLowerProg2 w 0 _ A n c fs h (Nat.le_refl _) hm
theorem implLowerProgC (w : World) (A : Option Addr) (n c : Nat) (fs : List Func) (h : Sl FuncR w 0 w.heap.size A n c fs) (hm : mszLFunc fs ≤ 1048576) (s : List Code) (hz : lowI fs = s) (b : Bool) (hb : goodP fs = b) :
    Calls Try.prog 67 #[.agg #[.slice A n c]] w (RetImO s b w) := by
  subst hz hb; exact implLowerProg2 w 0 _ A n c fs h (Nat.le_refl _) hm
end Go.Proofs.Ytkedpaopnnhinaa
