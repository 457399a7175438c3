/- Programs done with fuel: the program's top. Walk. -/
import Derived.Test.YtgoinmdnpaknpaaBigH
import Derived.Test.YtgoinmdnpaknpaaBigV
set_option linter.unusedVariables false
set_option linter.unusedSimpArgs false
set_option maxRecDepth 100000
namespace Go.Proofs.Ytgoinmdnpaknpaa
open Go.RowKit
attribute [local irreducible] wpList
/-- An outcome, its trace in memory of its own. -/
abbrev Outc := Int × Int × List Int × Int
def RetOc (o : Outc) (w : World) (e : Ending) (w' : World) : Prop :=
  ∃ A2 n2 c2 F2, e = .returned (.agg #[.int .i64 o.1, .int .i64 o.2.1, .slice A2 n2 c2, .int .i64 o.2.2.2]) ∧ OwnSl intR w' 3 F2 (.slice A2 n2 c2) o.2.2.1 ∧ (∀ k, k ∈ F2 → w.heap.size ≤ k) ∧ Below w.heap.size w w'
theorem below_frB {w w' : World} {G : List Nat} {B : Nat} (h : Fr G w w') (hB : B ≤ w.heap.size) (hG : ∀ k, k ∈ G → B ≤ k) : Below B w w' :=
  ⟨h.os, h.tape, h.output, h.size, fun k hk => h.block k (by omega) (fun hx => by have := hG k hx; omega)⟩
set_option maxHeartbeats 16000000 in
theorem implRunBig1 (w : World) (A : Option Addr) (n c : Nat) (x : List Func) (h : Sl FuncR w 0 w.heap.size A n c x) (Ai : Option Addr) (ni ci : Nat) (ins : List Int) (hi : Sl intR w 0 w.heap.size Ai ni ci ins) (most fuel : Nat) (hc : CfgG ⟨x, ins, most⟩) (hf : fuel ≤ 600) :
    Calls Try.prog 42 #[.agg #[.slice A n c], .slice Ai ni ci, .int .i64 most, .int .i64 fuel] w (RetOc (bigR x ins most fuel) w) := by
  go_enter Try.func42, Try.ntmps42
  obtain ⟨Q, hQ⟩ : ∃ Q, w.heap.size + 1 = Q := ⟨_, rfl⟩
  obtain ⟨R, hR⟩ : ∃ R, Q + 1 = R := ⟨_, rfl⟩
  obtain ⟨W0, hW0⟩ : ∃ W0, W0 = (w.alloc (.cells #[.slice A n c] 43)).alloc (.cells #[.int .i64 0, .int .i64 0, .slice none 0 0, .int .i64 0] 50) := ⟨_, rfl⟩
  obtain ⟨W, hW⟩ : ∃ W, W = W0.alloc (.cells #[.slice A n c, .slice Ai ni ci, .int .i64 most, .int .i64 fuel, .int .i64 0, .int .i64 0, .int .i64 0, .slice none 0 0, .int .i64 0] 103) := ⟨_, rfl⟩
  have hz0 : W0.heap.size = R := by rw [hW0]; simp; omega
  have hbW : Below w.heap.size w W := by rw [hW, hW0]; exact belA
  have hrun : W.heap[R]? = some (.cells #[.slice A n c, .slice Ai ni ci, .int .i64 most, .int .i64 fuel, .int .i64 0, .int .i64 0, .int .i64 0, .slice none 0 0, .int .i64 0] 103) := by rw [hW]; exact alloc_new' hz0
  have hq0 : W0.heap[Q]? = some (.cells #[.int .i64 0, .int .i64 0, .slice none 0 0, .int .i64 0] 50) := by rw [hW0]; exact alloc_new' (by simp; omega)
  have hqW : W.heap[Q]? = some (.cells #[.int .i64 0, .int .i64 0, .slice none 0 0, .int .i64 0] 50) := by rw [hW]; rw [alloc_lt (by omega)]; exact hq0
  have hzW : W.heap.size = R + 1 := by rw [hW]; simp; omega
  have HQW := Lib.hid hqW
  have HRUN := Lib.hid hrun
  have HBW := Lib.hid hbW
  have HZW := Lib.hid hzW
  have HC := Lib.hid hc
  obtain ⟨M, hM⟩ : ∃ M : MCfg, M = ⟨R, A, n, c, Ai, ni, ci⟩ := ⟨_, rfl⟩
  have hMR : R = M.R := by rw [hM]
  have hctx : Ctx M ⟨x, ins, most⟩ w.heap.size W := by rw [hM]; exact ⟨h.below hbW (Nat.le_refl _), hi.below hbW (Nat.le_refl _), hbW.size⟩
  have hmst : MSt M ⟨x, ins, most⟩ W ((0 : Nat) : Int) 0 (.slice none 0 0) [] ⟨0, fuel, []⟩ := by rw [hM]; exact ⟨hrun, OwnSl.nil_ ..⟩
  have hRw : w.heap.size + 1 < R := by omega
  obtain ⟨r, hr⟩ : ∃ r, (big ⟨x, ins, most⟩ fuel).1 0 [] 1 none ⟨0, fuel, []⟩ = r := ⟨_, rfl⟩
  have hmany := hc.many
  have hsok : StOk ⟨x, ins, most⟩ 600 ⟨0, fuel, []⟩ := ⟨Nat.zero_le _, by simp only [List.length_nil]; omega, fun n hn => by cases hn⟩
  have hcp : CallP ⟨x, ins, most⟩ 600 ⟨0, fuel, []⟩ none r := by
    rw [← hr]
    exact (big_ok hc fuel hf).1 600 0 [] 1 none ⟨0, fuel, []⟩ (by simp only; simp only at hmany; omega) (by simp) (fun x hx => by cases hx) (fun e he => by cases he) hsok (Nat.le_refl _)
  have HCP := Lib.hid hcp
  have hcall : Calls Try.prog 60 #[.pointer (some ⟨R, 0, none⟩), .int .i64 0, .slice none 0 0, .pointer none] W (RetCl M ⟨x, ins, most⟩ w.heap.size none none W [] ((0 : Nat) : Int) r) := by
    have h9 := (implBig (M := M) hc 600 (Nat.le_refl _) fuel hf).2.2.1 w.heap.size 0 none none W [] (.slice none 0 0) 0 ⟨0, fuel, []⟩ none 0 0 [] hctx hmst trivial (fun e he => by cases he) (by simp) (fun k hk => by simp at hk; rw [hk, ← hMR]; omega) (by simp only; simp only at hmany; omega) (by simp) (fun x hx => by cases hx) hsok (Nat.le_refl _) (Nat.zero_le _) (Sl.nil_ ..) (fun a e => by cases e)
    rw [show (0 : Nat) + 1 = 1 from rfl, hr, ← hMR] at h9
    exact h9
  have HCALL := Lib.hid hcall
  have hbig : bigR x ins most fuel = (r.2.1.1, (if r.2.1.1 = 1 then r.1 else if r.2.1.1 = 2 then r.2.1.2 else 0), r.2.2.2.tr, (r.2.2.2.used : Int)) := by
    unfold bigR; simp only [hr]
  obtain ⟨oo, ho⟩ : ∃ o, bigR x ins most fuel = o := ⟨_, rfl⟩
  have HBIG := Lib.hid (show oo = (r.2.1.1, (if r.2.1.1 = 1 then r.1 else if r.2.1.1 = 2 then r.2.1.2 else 0), r.2.2.2.tr, (r.2.2.2.used : Int)) from by rw [← ho]; exact hbig)
  rw [ho]
  clear ho hqW hq0 hbW hzW hc hctx hmst hmany hsok hcp hcall hr hbig hM h hi hf hrun hz0
  have hqr : Q < R := by omega
  have hwq : w.heap.size < Q := by omega
  have HMR := Lib.hid hMR
  clear hMR
  go_upto_region 2 with fail
  rw [← hW0, ← hW]
  clear hW hW0 hQ hR
  go_wp2_with fail
  refine HCALL.out.mono ?_
  rintro e w1 ⟨n9, deep9, code9, vt9, Ft9, rfl, in9, HV9, HM9, HB9, HD9, HFR9, HIN9, HND9⟩
  obtain ⟨h9, hh9⟩ : ∃ h9, cut4 r.2.1.1 = h9 := ⟨_, rfl⟩
  rw [hh9]
  have HH9 := Lib.hid hh9
  clear hh9 HB9 HCALL HRUN
  obtain ⟨A7, n7, c7, hv7, hl7⟩ := HM9.out.tr.form
  subst hv7
  have HQ1 := Lib.hid (show w1.heap[Q]? = some (.cells #[.int .i64 0, .int .i64 0, .slice none 0 0, .int .i64 0] 50) from (HFR9.out.block Q (by have := HZW.out; omega) (by simp [← HMR.out]; omega)).trans HQW.out)
  have hz1 := HFR9.out.size
  have HB1 := Lib.hid (show Below w.heap.size w w1 from below_trB HBW.out (below_frB HFR9.out HBW.out.size (fun k hk => by simp at hk; rw [hk, ← HMR.out]; omega)))
  have hRl : R < w1.heap.size := by have := HZW.out; omega
  clear hl7 hz1
  have hw4 : (h9 = 4 ∧ 4 ≤ r.2.1.1) ∨ (h9 = r.2.1.1 ∧ (h9 = 1 ∨ h9 = 2 ∨ h9 = 3)) := by
    have h1 := HCP.out.how
    have h2 := HH9.out
    unfold cut4 at h2
    split at h2 <;> omega
  have hrb := HM9.out.run
  unfold RunB at hrb
  rw [← HMR.out] at hrb
  have HRB := Lib.hid hrb
  have r5 : w1.cell? ⟨R, 5, none⟩ = some (.int .i64 code9) := by rw [cell_of_row _ _ _ _ _ _ hrb]; rfl
  have r6 : w1.cell? ⟨R, 6, none⟩ = some (.int .i64 0) := by rw [cell_of_row _ _ _ _ _ _ hrb]; rfl
  have r7 : w1.cell? ⟨R, 7, none⟩ = some (.slice A7 n7 c7) := by rw [cell_of_row _ _ _ _ _ _ hrb]; rfl
  have r8 : w1.cell? ⟨R, 8, none⟩ = some (.int .i64 r.2.2.2.used) := by rw [cell_of_row _ _ _ _ _ _ hrb]; rfl
  have rf5 := blk_frozen hrb 5
  have rf6 := blk_frozen hrb 6
  clear hrb
  rcases hw4 with ⟨rfl, hr4⟩ | ⟨hr4, h123⟩
  · have HCO := Lib.hid (HD9.out.2 hr4)
    have HR4 := Lib.hid hr4
    clear hr4
    have HF2 := Lib.hid (show Fr [R] w1 w1 from by exact frcA)
    go_upto_region 10 with fail
    obtain ⟨w2, hw2⟩ : ∃ w2, w2 = w1 := ⟨_, rfl⟩
    have r5b : w2.cell? ⟨R, 5, none⟩ = some (.int .i64 code9) := by rw [hw2]; simp [go_sem, r5, r6, r7, r8, rf5, rf6]
    have r6b : w2.cell? ⟨R, 6, none⟩ = some (.int .i64 0) := by rw [hw2]; simp [go_sem, r5, r6, r7, r8, rf5, rf6]
    have r7b : w2.cell? ⟨R, 7, none⟩ = some (.slice A7 n7 c7) := by rw [hw2]; simp [go_sem, r5, r6, r7, r8, rf5, rf6]
    have r8b : w2.cell? ⟨R, 8, none⟩ = some (.int .i64 r.2.2.2.used) := by rw [hw2]; simp [go_sem, r5, r6, r7, r8, rf5, rf6]
    have hf2 : Fr [R] w1 w2 := by rw [hw2]; exact HF2.out
    have hq2 : w2.heap[Q]? = some (.cells #[.int .i64 0, .int .i64 0, .slice none 0 0, .int .i64 0] 50) := fr_atX hf2 (by simp; omega) HQ1.out
    rw [show w1 = w2 from hw2.symm]
    have qc := fun o => cell_of_row w2 Q o _ _ _ hq2
    have q0 := qc 0
    have q1 := qc 1
    have q2 := qc 2
    have q3 := qc 3
    have qf := blk_frozen hq2
    have hQl := blk_size hq2
    have HFX := Lib.hid hf2
    clear qc hw2 HF2 r5 r6 r7 r8 rf5 rf6 hq2 hf2
    go_wp2_with fail
    refine bodyPost_ret (v := .agg #[.int .i64 code9, .int .i64 0, .slice A7 n7 c7, .int .i64 r.2.2.2.used]) (by simp [results, Try.results42, go_sem, q0, q1, q2, q3, qf, hQl]) rfl ?_
    have hfQ : Fr [Q] w2 ((((w2.setCell ⟨Q, 0, none⟩ (.int .i64 code9)).setCell ⟨Q, 1, none⟩ (.int .i64 0)).setCell ⟨Q, 2, none⟩ (.slice A7 n7 c7)).setCell ⟨Q, 3, none⟩ (.int .i64 r.2.2.2.used)) := by exact frcA
    rw [HBIG.out]
    have hF9 : ∀ k, k ∈ Ft9 → w.heap.size ≤ k ∧ k ≠ R ∧ k ≠ Q := fun k hk => by
      have h1 := HND9.out
      rw [← HMR.out] at h1
      simp only [Option.toList_none, List.append_nil, List.nodup_cons] at h1
      have h2 := HIN9.out k hk
      simp only [List.not_mem_nil, false_or] at h2
      have := HZW.out
      exact ⟨by omega, fun e => h1.1 (e ▸ hk), by omega⟩
    refine ⟨A7, n7, c7, Ft9, ?_, ((HM9.out.tr.fr HFX.out (fun k hk h2 => (hF9 k hk).2.1 (List.mem_singleton.1 h2))).fr hfQ (fun k hk h2 => (hF9 k hk).2.2 (List.mem_singleton.1 h2))), fun k hk => (hF9 k hk).1, below_trB (below_trB HB1.out (below_frB HFX.out HB1.out.size (fun k hk => by rw [List.mem_singleton.1 hk]; omega))) (below_frB hfQ (by have := HB1.out.size; have := HFX.out.size; omega) (fun k hk => by rw [List.mem_singleton.1 hk]; omega))⟩
    simp only; rw [HCO.out, if_neg (by have := HR4.out; omega), if_neg (by have := HR4.out; omega)]
  have HR4 := Lib.hid hr4
  clear hr4
  rcases h123 with rfl | rfl | rfl
  · have HN := Lib.hid (HV9.out.1 HR4.out.symm)
    have HF2 := Lib.hid (show Fr [R] w1 ((w1.setCell ⟨R, 5, none⟩ (.int .i64 1)).setCell ⟨R, 6, none⟩ (.int .i64 n9)) from by exact frcA)
    go_upto_region 10 with fail
    obtain ⟨w2, hw2⟩ : ∃ w2, w2 = ((w1.setCell ⟨R, 5, none⟩ (.int .i64 1)).setCell ⟨R, 6, none⟩ (.int .i64 n9)) := ⟨_, rfl⟩
    have r5b : w2.cell? ⟨R, 5, none⟩ = some (.int .i64 1) := by rw [hw2]; simp [go_sem, r5, r6, r7, r8, rf5, rf6]
    have r6b : w2.cell? ⟨R, 6, none⟩ = some (.int .i64 n9) := by rw [hw2]; simp [go_sem, r5, r6, r7, r8, rf5, rf6]
    have r7b : w2.cell? ⟨R, 7, none⟩ = some (.slice A7 n7 c7) := by rw [hw2]; simp [go_sem, r5, r6, r7, r8, rf5, rf6]
    have r8b : w2.cell? ⟨R, 8, none⟩ = some (.int .i64 r.2.2.2.used) := by rw [hw2]; simp [go_sem, r5, r6, r7, r8, rf5, rf6]
    have hf2 : Fr [R] w1 w2 := by rw [hw2]; exact HF2.out
    have hq2 : w2.heap[Q]? = some (.cells #[.int .i64 0, .int .i64 0, .slice none 0 0, .int .i64 0] 50) := fr_atX hf2 (by simp; omega) HQ1.out
    rw [← hw2]
    have qc := fun o => cell_of_row w2 Q o _ _ _ hq2
    have q0 := qc 0
    have q1 := qc 1
    have q2 := qc 2
    have q3 := qc 3
    have qf := blk_frozen hq2
    have hQl := blk_size hq2
    have HFX := Lib.hid hf2
    clear qc hw2 HF2 r5 r6 r7 r8 rf5 rf6 hq2 hf2
    go_wp2_with fail
    refine bodyPost_ret (v := .agg #[.int .i64 1, .int .i64 n9, .slice A7 n7 c7, .int .i64 r.2.2.2.used]) (by simp [results, Try.results42, go_sem, q0, q1, q2, q3, qf, hQl]) rfl ?_
    have hfQ : Fr [Q] w2 ((((w2.setCell ⟨Q, 0, none⟩ (.int .i64 1)).setCell ⟨Q, 1, none⟩ (.int .i64 n9)).setCell ⟨Q, 2, none⟩ (.slice A7 n7 c7)).setCell ⟨Q, 3, none⟩ (.int .i64 r.2.2.2.used)) := by exact frcA
    rw [HBIG.out]
    have hF9 : ∀ k, k ∈ Ft9 → w.heap.size ≤ k ∧ k ≠ R ∧ k ≠ Q := fun k hk => by
      have h1 := HND9.out
      rw [← HMR.out] at h1
      simp only [Option.toList_none, List.append_nil, List.nodup_cons] at h1
      have h2 := HIN9.out k hk
      simp only [List.not_mem_nil, false_or] at h2
      have := HZW.out
      exact ⟨by omega, fun e => h1.1 (e ▸ hk), by omega⟩
    refine ⟨A7, n7, c7, Ft9, ?_, ((HM9.out.tr.fr HFX.out (fun k hk h2 => (hF9 k hk).2.1 (List.mem_singleton.1 h2))).fr hfQ (fun k hk h2 => (hF9 k hk).2.2 (List.mem_singleton.1 h2))), fun k hk => (hF9 k hk).1, below_trB (below_trB HB1.out (below_frB HFX.out HB1.out.size (fun k hk => by rw [List.mem_singleton.1 hk]; omega))) (below_frB hfQ (by have := HB1.out.size; have := HFX.out.size; omega) (fun k hk => by rw [List.mem_singleton.1 hk]; omega))⟩
    simp only; rw [← HR4.out, if_pos rfl, ← HN.out]
  · have HN := Lib.hid (HV9.out.2 HR4.out.symm)
    have HF2 := Lib.hid (show Fr [R] w1 ((w1.setCell ⟨R, 5, none⟩ (.int .i64 2)).setCell ⟨R, 6, none⟩ (.int .i64 n9)) from by exact frcA)
    go_upto_region 10 with fail
    obtain ⟨w2, hw2⟩ : ∃ w2, w2 = ((w1.setCell ⟨R, 5, none⟩ (.int .i64 2)).setCell ⟨R, 6, none⟩ (.int .i64 n9)) := ⟨_, rfl⟩
    have r5b : w2.cell? ⟨R, 5, none⟩ = some (.int .i64 2) := by rw [hw2]; simp [go_sem, r5, r6, r7, r8, rf5, rf6]
    have r6b : w2.cell? ⟨R, 6, none⟩ = some (.int .i64 n9) := by rw [hw2]; simp [go_sem, r5, r6, r7, r8, rf5, rf6]
    have r7b : w2.cell? ⟨R, 7, none⟩ = some (.slice A7 n7 c7) := by rw [hw2]; simp [go_sem, r5, r6, r7, r8, rf5, rf6]
    have r8b : w2.cell? ⟨R, 8, none⟩ = some (.int .i64 r.2.2.2.used) := by rw [hw2]; simp [go_sem, r5, r6, r7, r8, rf5, rf6]
    have hf2 : Fr [R] w1 w2 := by rw [hw2]; exact HF2.out
    have hq2 : w2.heap[Q]? = some (.cells #[.int .i64 0, .int .i64 0, .slice none 0 0, .int .i64 0] 50) := fr_atX hf2 (by simp; omega) HQ1.out
    rw [← hw2]
    have qc := fun o => cell_of_row w2 Q o _ _ _ hq2
    have q0 := qc 0
    have q1 := qc 1
    have q2 := qc 2
    have q3 := qc 3
    have qf := blk_frozen hq2
    have hQl := blk_size hq2
    have HFX := Lib.hid hf2
    clear qc hw2 HF2 r5 r6 r7 r8 rf5 rf6 hq2 hf2
    go_wp2_with fail
    refine bodyPost_ret (v := .agg #[.int .i64 2, .int .i64 n9, .slice A7 n7 c7, .int .i64 r.2.2.2.used]) (by simp [results, Try.results42, go_sem, q0, q1, q2, q3, qf, hQl]) rfl ?_
    have hfQ : Fr [Q] w2 ((((w2.setCell ⟨Q, 0, none⟩ (.int .i64 2)).setCell ⟨Q, 1, none⟩ (.int .i64 n9)).setCell ⟨Q, 2, none⟩ (.slice A7 n7 c7)).setCell ⟨Q, 3, none⟩ (.int .i64 r.2.2.2.used)) := by exact frcA
    rw [HBIG.out]
    have hF9 : ∀ k, k ∈ Ft9 → w.heap.size ≤ k ∧ k ≠ R ∧ k ≠ Q := fun k hk => by
      have h1 := HND9.out
      rw [← HMR.out] at h1
      simp only [Option.toList_none, List.append_nil, List.nodup_cons] at h1
      have h2 := HIN9.out k hk
      simp only [List.not_mem_nil, false_or] at h2
      have := HZW.out
      exact ⟨by omega, fun e => h1.1 (e ▸ hk), by omega⟩
    refine ⟨A7, n7, c7, Ft9, ?_, ((HM9.out.tr.fr HFX.out (fun k hk h2 => (hF9 k hk).2.1 (List.mem_singleton.1 h2))).fr hfQ (fun k hk h2 => (hF9 k hk).2.2 (List.mem_singleton.1 h2))), fun k hk => (hF9 k hk).1, below_trB (below_trB HB1.out (below_frB HFX.out HB1.out.size (fun k hk => by rw [List.mem_singleton.1 hk]; omega))) (below_frB hfQ (by have := HB1.out.size; have := HFX.out.size; omega) (fun k hk => by rw [List.mem_singleton.1 hk]; omega))⟩
    simp only; rw [← HR4.out, if_neg (by omega), if_pos rfl, ← HN.out]
  · skip
    have HF2 := Lib.hid (show Fr [R] w1 (w1.setCell ⟨R, 5, none⟩ (.int .i64 3)) from by exact frcA)
    go_upto_region 10 with fail
    obtain ⟨w2, hw2⟩ : ∃ w2, w2 = (w1.setCell ⟨R, 5, none⟩ (.int .i64 3)) := ⟨_, rfl⟩
    have r5b : w2.cell? ⟨R, 5, none⟩ = some (.int .i64 3) := by rw [hw2]; simp [go_sem, r5, r6, r7, r8, rf5, rf6]
    have r6b : w2.cell? ⟨R, 6, none⟩ = some (.int .i64 0) := by rw [hw2]; simp [go_sem, r5, r6, r7, r8, rf5, rf6]
    have r7b : w2.cell? ⟨R, 7, none⟩ = some (.slice A7 n7 c7) := by rw [hw2]; simp [go_sem, r5, r6, r7, r8, rf5, rf6]
    have r8b : w2.cell? ⟨R, 8, none⟩ = some (.int .i64 r.2.2.2.used) := by rw [hw2]; simp [go_sem, r5, r6, r7, r8, rf5, rf6]
    have hf2 : Fr [R] w1 w2 := by rw [hw2]; exact HF2.out
    have hq2 : w2.heap[Q]? = some (.cells #[.int .i64 0, .int .i64 0, .slice none 0 0, .int .i64 0] 50) := fr_atX hf2 (by simp; omega) HQ1.out
    rw [← hw2]
    have qc := fun o => cell_of_row w2 Q o _ _ _ hq2
    have q0 := qc 0
    have q1 := qc 1
    have q2 := qc 2
    have q3 := qc 3
    have qf := blk_frozen hq2
    have hQl := blk_size hq2
    have HFX := Lib.hid hf2
    clear qc hw2 HF2 r5 r6 r7 r8 rf5 rf6 hq2 hf2
    go_wp2_with fail
    refine bodyPost_ret (v := .agg #[.int .i64 3, .int .i64 0, .slice A7 n7 c7, .int .i64 r.2.2.2.used]) (by simp [results, Try.results42, go_sem, q0, q1, q2, q3, qf, hQl]) rfl ?_
    have hfQ : Fr [Q] w2 ((((w2.setCell ⟨Q, 0, none⟩ (.int .i64 3)).setCell ⟨Q, 1, none⟩ (.int .i64 0)).setCell ⟨Q, 2, none⟩ (.slice A7 n7 c7)).setCell ⟨Q, 3, none⟩ (.int .i64 r.2.2.2.used)) := by exact frcA
    rw [HBIG.out]
    have hF9 : ∀ k, k ∈ Ft9 → w.heap.size ≤ k ∧ k ≠ R ∧ k ≠ Q := fun k hk => by
      have h1 := HND9.out
      rw [← HMR.out] at h1
      simp only [Option.toList_none, List.append_nil, List.nodup_cons] at h1
      have h2 := HIN9.out k hk
      simp only [List.not_mem_nil, false_or] at h2
      have := HZW.out
      exact ⟨by omega, fun e => h1.1 (e ▸ hk), by omega⟩
    refine ⟨A7, n7, c7, Ft9, ?_, ((HM9.out.tr.fr HFX.out (fun k hk h2 => (hF9 k hk).2.1 (List.mem_singleton.1 h2))).fr hfQ (fun k hk h2 => (hF9 k hk).2.2 (List.mem_singleton.1 h2))), fun k hk => (hF9 k hk).1, below_trB (below_trB HB1.out (below_frB HFX.out HB1.out.size (fun k hk => by rw [List.mem_singleton.1 hk]; omega))) (below_frB hfQ (by have := HB1.out.size; have := HFX.out.size; omega) (fun k hk => by rw [List.mem_singleton.1 hk]; omega))⟩
    simp only; rw [← HR4.out, if_neg (by omega), if_neg (by omega)]
end Go.Proofs.Ytgoinmdnpaknpaa
