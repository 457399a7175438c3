/- Programs done with fuel: the reference's top. Walk. -/
import Derived.Test.YtgoinmdnpaknpaaBigZd
import Derived.Test.YtgoinmdnpaknpaaBigWt
set_option linter.unusedVariables false
set_option linter.unusedSimpArgs false
set_option maxRecDepth 100000
namespace Go.Proofs.Ytgoinmdnpaknpaa
open Go.RowKit
attribute [local irreducible] wpList
set_option maxHeartbeats 16000000 in
theorem specL4Run1 (w : World) (A : Option Addr) (n c : Nat) (x : List Func) (h : Sl FuncR w 0 w.heap.size A n c x) (Ai : Option Addr) (ni ci : Nat) (ins : List Int) (hi : Sl intR w 0 w.heap.size Ai ni ci ins) (most fuel : Nat) (hc : CfgG ⟨x, ins, most⟩) (hf : fuel ≤ 600) :
    Calls Try.prog 39 #[.agg #[.slice A n c], .slice Ai ni ci, .int .i64 most, .int .i64 fuel] w (RetOc (bigR x ins most fuel) w) := by
  go_enter Try.func39, Try.ntmps39
  obtain ⟨Q, hQ⟩ : ∃ Q, w.heap.size + 1 = Q := ⟨_, rfl⟩
  obtain ⟨R, hR⟩ : ∃ R, Q + 1 = R := ⟨_, rfl⟩
  obtain ⟨Y, hY⟩ : ∃ Y, R + 1 = Y := ⟨_, rfl⟩
  obtain ⟨W0, hW0⟩ : ∃ W0, W0 = (w.alloc (.cells #[.slice A n c] 43)).alloc (.cells #[.int .i64 0, .int .i64 0, .slice none 0 0, .int .i64 0] 50) := ⟨_, rfl⟩
  obtain ⟨W1, hW1⟩ : ∃ W1, W1 = W0.alloc (.cells #[.slice A n c, .slice Ai ni ci, .int .i64 0, .int .i64 fuel, .int .i64 most, .slice none 0 0] 87) := ⟨_, rfl⟩
  obtain ⟨W, hW⟩ : ∃ W, W = W1.alloc (.cells #[.int .i64 0, .int .i64 0, .int .i64 0] 94) := ⟨_, rfl⟩
  have hz0 : W0.heap.size = R := by rw [hW0]; simp; omega
  have hz1 : W1.heap.size = Y := by rw [hW1]; simp; omega
  have hbW : Below w.heap.size w W := by rw [hW, hW1, hW0]; exact belA
  have hrun : W.heap[R]? = some (.cells #[.slice A n c, .slice Ai ni ci, .int .i64 0, .int .i64 fuel, .int .i64 most, .slice none 0 0] 87) := by rw [hW, alloc_lt (by omega), hW1]; exact alloc_new' hz0
  have hen : W.heap[Y]? = some (.cells #[.int .i64 0, .int .i64 0, .int .i64 0] 94) := by rw [hW]; exact alloc_new' hz1
  have hq0 : W0.heap[Q]? = some (.cells #[.int .i64 0, .int .i64 0, .slice none 0 0, .int .i64 0] 50) := by rw [hW0]; exact alloc_new' (by simp; omega)
  have hqW : W.heap[Q]? = some (.cells #[.int .i64 0, .int .i64 0, .slice none 0 0, .int .i64 0] 50) := by rw [hW, alloc_lt (by omega), hW1, alloc_lt (by omega)]; exact hq0
  have hzW : W.heap.size = Y + 1 := by rw [hW]; simp; omega
  have HQW := Lib.hid hqW
  have HBW := Lib.hid hbW
  have HZW := Lib.hid hzW
  obtain ⟨M, hM⟩ : ∃ M : MCfg, M = ⟨R, A, n, c, Ai, ni, ci⟩ := ⟨_, rfl⟩
  have hMR : R = M.R := by rw [hM]
  have hctx : Ctx M ⟨x, ins, most⟩ w.heap.size W := by rw [hM]; exact ⟨h.below hbW (Nat.le_refl _), hi.below hbW (Nat.le_refl _), hbW.size⟩
  have hmst : MtS M ⟨x, ins, most⟩ W (.slice none 0 0) [] ⟨0, fuel, []⟩ := by rw [hM]; exact ⟨hrun, OwnSl.nil_ ..⟩
  have hRw : w.heap.size + 1 < R := by omega
  obtain ⟨r, hr⟩ : ∃ r, (big ⟨x, ins, most⟩ fuel).1 0 [] 1 none ⟨0, fuel, []⟩ = r := ⟨_, rfl⟩
  have hmany := hc.many
  have hsok : StOk ⟨x, ins, most⟩ 600 ⟨0, fuel, []⟩ := ⟨Nat.zero_le _, by simp only [List.length_nil]; omega, fun n hn => by cases hn⟩
  have hcp : CallP ⟨x, ins, most⟩ 600 ⟨0, fuel, []⟩ none r := by
    rw [← hr]
    exact (big_ok hc fuel hf).1 600 0 [] 1 none ⟨0, fuel, []⟩ (by simp only; simp only at hmany; omega) (by simp) (fun x hx => by cases hx) (fun e he => by cases he) hsok (Nat.le_refl _)
  have HCP := Lib.hid hcp
  have hcall : Calls Try.prog 54 #[.pointer (some ⟨R, 0, none⟩), .int .i64 0, .slice none 0 0, .int .i64 1, .pointer (some ⟨Y, 0, none⟩)] W (RetClS M ⟨x, ins, most⟩ Y W [] r) := by
    have h9 := (specBig (M := M) hc 600 (Nat.le_refl _) fuel hf).2.2.1 w.heap.size 0 Y none W [] (.slice none 0 0) 0 ⟨0, fuel, []⟩ none 0 0 [] hctx hmst hen (fun e he => by cases he) (by simp; omega) (fun k hk => by simp at hk; rcases hk with hk | hk <;> omega) (by simp only; simp only at hmany; omega) (by simp) (fun x hx => by cases hx) hsok (Nat.le_refl _) (Nat.zero_le _) (Sl.nil_ ..) (fun a e => by cases e)
    rw [show (0 : Nat) + 1 = 1 from rfl, hr, ← hMR] at h9
    exact h9
  have HCALL := Lib.hid hcall
  have hbig : bigR x ins most fuel = (r.2.1.1, (if r.2.1.1 = 1 then r.1 else if r.2.1.1 = 2 then r.2.1.2 else 0), r.2.2.2.tr, (r.2.2.2.used : Int)) := by
    unfold bigR; simp only [hr]
  obtain ⟨oo, ho⟩ : ∃ o, bigR x ins most fuel = o := ⟨_, rfl⟩
  have HBIG := Lib.hid (show oo = (r.2.1.1, (if r.2.1.1 = 1 then r.1 else if r.2.1.1 = 2 then r.2.1.2 else 0), r.2.2.2.tr, (r.2.2.2.used : Int)) from by rw [← ho]; exact hbig)
  rw [ho]
  clear ho hqW hq0 hbW hzW hc hctx hmst hmany hsok hcp hcall hr hbig hM h hi hf hrun hz0 hz1 hen
  have hqr : Q < R := by omega
  have hry : R < Y := by omega
  have hwq : w.heap.size < Q := by omega
  have HMR := Lib.hid hMR
  clear hMR
  go_wp2_with fail
  rw [← hW0, ← hW1, ← hW]
  clear hW hW0 hW1 hQ hR hY
  refine HCALL.out.mono ?_
  rintro e w1 ⟨x9, n9, vt9, Ft9, rfl, ix9, in9, HV9, HM9, HB9, HFR9, HIN9, HND9⟩
  obtain ⟨h9, hh9⟩ : ∃ h9, r.2.1.1 = h9 := ⟨_, rfl⟩
  rw [hh9] at HM9 HV9
  rw [hh9]
  have HH9 := Lib.hid hh9
  have h15 : 1 ≤ h9 ∧ h9 ≤ 5 := by rw [← hh9]; exact HCP.out.how
  clear hh9 HB9 HCALL
  obtain ⟨ff, hmm, _⟩ := HM9.out
  obtain ⟨A7, n7, c7, hv7, hl7⟩ := hmm.tr.form
  subst hv7
  have HTR := Lib.hid hmm.tr
  have HQ1 := Lib.hid (show w1.heap[Q]? = some (.cells #[.int .i64 0, .int .i64 0, .slice none 0 0, .int .i64 0] 50) from (HFR9.out.block Q (by have := HZW.out; omega) (by simp [← HMR.out]; omega)).trans HQW.out)
  have hz1 := HFR9.out.size
  have HB1 := Lib.hid (show Below w.heap.size w w1 from below_trB HBW.out (below_frB HFR9.out HBW.out.size (fun k hk => by simp [← HMR.out] at hk; rcases hk with hk | hk <;> omega)))
  have hrb := hmm.run
  unfold RunS at hrb
  rw [← HMR.out] at hrb
  have hYl : Y < w1.heap.size := by have := HZW.out; omega
  have HRB := Lib.hid hrb
  have r2 : w1.cell? ⟨R, 2, none⟩ = some (.int .i64 r.2.2.2.used) := by rw [cell_of_row _ _ _ _ _ _ hrb]; rfl
  have r5 : w1.cell? ⟨R, 5, none⟩ = some (.slice A7 n7 c7) := by rw [cell_of_row _ _ _ _ _ _ hrb]; rfl
  clear hl7 hz1 hmm hrb
  obtain ⟨E, hE⟩ : ∃ E, w1.heap.size = E := ⟨_, rfl⟩
  obtain ⟨Va, hVa⟩ : ∃ Va, Va = w1.alloc (.cells #[.int .i64 h9, .int .i64 n9] 89) := ⟨_, rfl⟩
  have bVa : Below w1.heap.size w1 Va := by rw [hVa]; exact belA
  have hEc : Va.heap[E]? = some (.cells #[.int .i64 h9, .int .i64 n9] 89) := by rw [hVa]; exact alloc_new' hE
  have y0 : Va.cell? ⟨E, 0, none⟩ = some (.int .i64 h9) := by rw [cell_of_row _ _ _ _ _ _ hEc]; rfl
  have y1 : Va.cell? ⟨E, 1, none⟩ = some (.int .i64 n9) := by rw [cell_of_row _ _ _ _ _ _ hEc]; rfl
  have hEV : E < Va.heap.size := blk_size hEc
  replace r2 := below_cell bVa r2
  replace r5 := below_cell bVa r5
  have hYE : Y < E := by omega
  have HBVa := Lib.hid bVa
  go_upto_region 3 with fail
  rw [← hVa]
  clear hVa hEc bVa hE
  obtain ⟨T, hT⟩ : ∃ T, Va.heap.size = T := ⟨_, rfl⟩
  refine wp_region_noPanic ?_
  refine wp_region_hd (S := (fun V' => V'.cell? ⟨E, 0, none⟩ = some (.int .i64 h9) ∧ V'.cell? ⟨R, 5, none⟩ = some (.slice A7 n7 c7) ∧ V'.cell? ⟨R, 2, none⟩ = some (.int .i64 r.2.2.2.used))) 13 (by kernel_rfl) (by kernel_rfl) ⟨y0, r5, r2⟩ (fun hR0 => ?_)
  refine takeH 0 ?_
  refine takeH 1 ?_
  refine takeH 2 ?_
  refine takeH 3 ?_
  refine takeH 4 ?_
  refine takeH 5 ?_
  refine takeH 6 ?_
  refine takeH 7 ?_
  refine takeH 8 ?_
  refine takeH 9 ?_
  refine takeH 10 ?_
  refine wpAnyH_ready (rs := [11]) (by kernel_rfl) (by simp) ?_
  refine AllReadyH.cons (i := 11) rfl (fun K hK => ?_) AllReadyH.nil
  go_simp
  refine hK.out _ _ ⟨below_cell (show Below Va.heap.size Va _ by exact belA) y0, below_cell (show Below Va.heap.size Va _ by exact belA) r5, below_cell (show Below Va.heap.size Va _ by exact belA) r2⟩ (fun hR11 => ?_)
  clear hK K
  try simp only [Act.put, List.getElem_toArray, List.getElem_cons_zero, List.getElem_cons_succ, List.setIfInBounds_toArray, List.set_cons_zero, List.set_cons_succ]
  refine wpAnyH_ready (rs := [12]) (by kernel_rfl) (by simp) ?_
  refine AllReadyH.cons (i := 12) rfl (fun K hK => ?_) AllReadyH.nil
  go_simp
  refine hK.out _ _ ⟨below_cell (show Below Va.heap.size Va _ by exact belA) y0, below_cell (show Below Va.heap.size Va _ by exact belA) r5, below_cell (show Below Va.heap.size Va _ by exact belA) r2⟩ (fun hR12 => ?_)
  clear hK K
  try simp only [Act.put, List.getElem_toArray, List.getElem_cons_zero, List.getElem_cons_succ, List.setIfInBounds_toArray, List.set_cons_zero, List.set_cons_succ]
  refine wpAnyH_done (by kernel_rfl) ?_ _
  refine NoPanic.normal ?_
  clear hR0 hR11 hR12
  obtain ⟨Wb, hWb⟩ : ∃ Wb, Wb = (Va.alloc (.cells #[.int .i64 h9, .int .i64 0, .slice A7 n7 c7, .int .i64 r.2.2.2.used] 50)).drew := ⟨_, rfl⟩
  have bWb : Below Va.heap.size Va Wb := by rw [hWb]; exact belA
  have hTc : Wb.heap[T]? = some (.cells #[.int .i64 h9, .int .i64 0, .slice A7 n7 c7, .int .i64 r.2.2.2.used] 50) := by rw [hWb]; exact alloc_new' hT
  rw [← hWb]
  clear hWb r2 r5
  replace y0 := below_cell bWb y0
  replace y1 := below_cell bWb y1
  have tc := fun o => cell_of_row Wb T o _ _ _ hTc
  have t0 := tc 0
  have t1 := tc 1
  have t2 := tc 2
  have t3 := tc 3
  have tf1 := blk_frozen hTc 1
  have hTl := blk_size hTc
  have HBb := Lib.hid (show Below w1.heap.size w1 Wb from HBVa.out.trans (bWb.mono HBVa.out.size))
  have HTE := Lib.hid (show w1.heap.size ≤ T from by rw [← hT]; exact HBVa.out.size)
  have hQT : Q < T := by have := HTE.out; omega
  have hTQ : ¬ Q = T := by omega
  have HQb := Lib.hid (show Wb.heap[Q]? = some (.cells #[.int .i64 0, .int .i64 0, .slice none 0 0, .int .i64 0] 50) from below_at HBb.out (by omega) HQ1.out)
  have HFQ := Lib.hid (show ∀ k, k ∈ Ft9 → w.heap.size ≤ k ∧ k ≠ Q from fun k hk => by
    have h2 := HIN9.out k hk
    simp only [List.not_mem_nil, false_or] at h2
    have := HZW.out
    exact ⟨by omega, by omega⟩)
  have HV := Lib.hid HV9.out
  clear tc hTc bWb hT hQT HV9 HM9
  have h3 : h9 = 1 ∨ h9 = 2 ∨ 3 ≤ h9 := by omega
  clear h15
  rcases h3 with rfl | rfl | h3
  · have HN := Lib.hid (HV.out.1 rfl)
    go_upto_region 9 with fail
    obtain ⟨w3, hw3⟩ : ∃ w3, w3 = (Wb.setCell ⟨T, 1, none⟩ (.int .i64 x9)) := ⟨_, rfl⟩
    have hf3 : Fr [T] Wb w3 := by rw [hw3]; exact frcA
    have t0b : w3.cell? ⟨T, 0, none⟩ = some (.int .i64 1) := by rw [hw3]; simp [go_sem, t0, t1, t2, t3, tf1]
    have t1b : w3.cell? ⟨T, 1, none⟩ = some (.int .i64 x9) := by rw [hw3]; simp [go_sem, t0, t1, t2, t3, tf1]
    have t2b : w3.cell? ⟨T, 2, none⟩ = some (.slice A7 n7 c7) := by rw [hw3]; simp [go_sem, t0, t1, t2, t3, tf1]
    have t3b : w3.cell? ⟨T, 3, none⟩ = some (.int .i64 r.2.2.2.used) := by rw [hw3]; simp [go_sem, t0, t1, t2, t3, tf1]
    have hq3 : w3.heap[Q]? = some (.cells #[.int .i64 0, .int .i64 0, .slice none 0 0, .int .i64 0] 50) := fr_atX hf3 (by simp; omega) HQb.out
    rw [← hw3]
    have qc := fun o => cell_of_row w3 Q o _ _ _ hq3
    have q0 := qc 0
    have q1 := qc 1
    have q2 := qc 2
    have q3 := qc 3
    have qf := blk_frozen hq3
    have hQl := blk_size hq3
    have HF3 := Lib.hid hf3
    clear qc hw3 hf3 hq3 t0 t1 t2 t3 tf1 y0 y1
    go_wp2_with fail
    refine bodyPost_ret (v := .agg #[.int .i64 1, .int .i64 x9, .slice A7 n7 c7, .int .i64 r.2.2.2.used]) (by simp [results, Try.results39, go_sem, q0, q1, q2, q3, qf, hQl]) rfl ?_
    have hfQ : Fr [Q] w3 ((((w3.setCell ⟨Q, 0, none⟩ (.int .i64 1)).setCell ⟨Q, 1, none⟩ (.int .i64 x9)).setCell ⟨Q, 2, none⟩ (.slice A7 n7 c7)).setCell ⟨Q, 3, none⟩ (.int .i64 r.2.2.2.used)) := by exact frcA
    rw [HBIG.out]
    refine ⟨A7, n7, c7, Ft9, ?_, (((HTR.out.below HBb.out).fr HF3.out (fun k hk h2 => by have := HTR.out.lt k hk; rw [List.mem_singleton.1 h2] at this; have := HTE.out; omega)).fr hfQ (fun k hk h2 => by have := HFQ.out k hk; rw [List.mem_singleton.1 h2] at this; omega)), fun k hk => by have := HFQ.out k hk; omega, below_trB (below_trB (below_trB HB1.out (HBb.out.mono HB1.out.size)) (below_frB HF3.out (by have := HBb.out.size; have := HB1.out.size; omega) (fun k hk => by rw [List.mem_singleton.1 hk]; have := HTE.out; have := HB1.out.size; omega))) (below_frB hfQ (by have := HBb.out.size; have := HB1.out.size; have := HF3.out.size; omega) (fun k hk => by rw [List.mem_singleton.1 hk]; omega))⟩
    simp only; rw [HH9.out, if_pos rfl, ← HN.out]
  · have HN := Lib.hid (HV.out.2 rfl)
    go_upto_region 9 with fail
    obtain ⟨w3, hw3⟩ : ∃ w3, w3 = (Wb.setCell ⟨T, 1, none⟩ (.int .i64 n9)) := ⟨_, rfl⟩
    have hf3 : Fr [T] Wb w3 := by rw [hw3]; exact frcA
    have t0b : w3.cell? ⟨T, 0, none⟩ = some (.int .i64 2) := by rw [hw3]; simp [go_sem, t0, t1, t2, t3, tf1]
    have t1b : w3.cell? ⟨T, 1, none⟩ = some (.int .i64 n9) := by rw [hw3]; simp [go_sem, t0, t1, t2, t3, tf1]
    have t2b : w3.cell? ⟨T, 2, none⟩ = some (.slice A7 n7 c7) := by rw [hw3]; simp [go_sem, t0, t1, t2, t3, tf1]
    have t3b : w3.cell? ⟨T, 3, none⟩ = some (.int .i64 r.2.2.2.used) := by rw [hw3]; simp [go_sem, t0, t1, t2, t3, tf1]
    have hq3 : w3.heap[Q]? = some (.cells #[.int .i64 0, .int .i64 0, .slice none 0 0, .int .i64 0] 50) := fr_atX hf3 (by simp; omega) HQb.out
    rw [← hw3]
    have qc := fun o => cell_of_row w3 Q o _ _ _ hq3
    have q0 := qc 0
    have q1 := qc 1
    have q2 := qc 2
    have q3 := qc 3
    have qf := blk_frozen hq3
    have hQl := blk_size hq3
    have HF3 := Lib.hid hf3
    clear qc hw3 hf3 hq3 t0 t1 t2 t3 tf1 y0 y1
    go_wp2_with fail
    refine bodyPost_ret (v := .agg #[.int .i64 2, .int .i64 n9, .slice A7 n7 c7, .int .i64 r.2.2.2.used]) (by simp [results, Try.results39, go_sem, q0, q1, q2, q3, qf, hQl]) rfl ?_
    have hfQ : Fr [Q] w3 ((((w3.setCell ⟨Q, 0, none⟩ (.int .i64 2)).setCell ⟨Q, 1, none⟩ (.int .i64 n9)).setCell ⟨Q, 2, none⟩ (.slice A7 n7 c7)).setCell ⟨Q, 3, none⟩ (.int .i64 r.2.2.2.used)) := by exact frcA
    rw [HBIG.out]
    refine ⟨A7, n7, c7, Ft9, ?_, (((HTR.out.below HBb.out).fr HF3.out (fun k hk h2 => by have := HTR.out.lt k hk; rw [List.mem_singleton.1 h2] at this; have := HTE.out; omega)).fr hfQ (fun k hk h2 => by have := HFQ.out k hk; rw [List.mem_singleton.1 h2] at this; omega)), fun k hk => by have := HFQ.out k hk; omega, below_trB (below_trB (below_trB HB1.out (HBb.out.mono HB1.out.size)) (below_frB HF3.out (by have := HBb.out.size; have := HB1.out.size; omega) (fun k hk => by rw [List.mem_singleton.1 hk]; have := HTE.out; have := HB1.out.size; omega))) (below_frB hfQ (by have := HBb.out.size; have := HB1.out.size; have := HF3.out.size; omega) (fun k hk => by rw [List.mem_singleton.1 hk]; omega))⟩
    simp only; rw [HH9.out, if_neg (by omega), if_pos rfl, ← HN.out]
  · have n1 : (h9 == 1) = false := beq_eq_false_iff_ne.2 (by omega)
    have n2 : (h9 == 2) = false := beq_eq_false_iff_ne.2 (by omega)
    have H3 := Lib.hid h3
    clear h3
    go_upto_region 9 with fail
    obtain ⟨w3, hw3⟩ : ∃ w3, w3 = Wb := ⟨_, rfl⟩
    have hf3 : Fr [T] Wb w3 := by rw [hw3]; exact frcA
    have t0b : w3.cell? ⟨T, 0, none⟩ = some (.int .i64 h9) := by rw [hw3]; simp [go_sem, t0, t1, t2, t3, tf1]
    have t1b : w3.cell? ⟨T, 1, none⟩ = some (.int .i64 0) := by rw [hw3]; simp [go_sem, t0, t1, t2, t3, tf1]
    have t2b : w3.cell? ⟨T, 2, none⟩ = some (.slice A7 n7 c7) := by rw [hw3]; simp [go_sem, t0, t1, t2, t3, tf1]
    have t3b : w3.cell? ⟨T, 3, none⟩ = some (.int .i64 r.2.2.2.used) := by rw [hw3]; simp [go_sem, t0, t1, t2, t3, tf1]
    have hq3 : w3.heap[Q]? = some (.cells #[.int .i64 0, .int .i64 0, .slice none 0 0, .int .i64 0] 50) := fr_atX hf3 (by simp; omega) HQb.out
    rw [show Wb = w3 from hw3.symm]
    have qc := fun o => cell_of_row w3 Q o _ _ _ hq3
    have q0 := qc 0
    have q1 := qc 1
    have q2 := qc 2
    have q3 := qc 3
    have qf := blk_frozen hq3
    have hQl := blk_size hq3
    have HF3 := Lib.hid hf3
    clear qc hw3 hf3 hq3 t0 t1 t2 t3 tf1 y0 y1
    go_wp2_with fail
    refine bodyPost_ret (v := .agg #[.int .i64 h9, .int .i64 0, .slice A7 n7 c7, .int .i64 r.2.2.2.used]) (by simp [results, Try.results39, go_sem, q0, q1, q2, q3, qf, hQl]) rfl ?_
    have hfQ : Fr [Q] w3 ((((w3.setCell ⟨Q, 0, none⟩ (.int .i64 h9)).setCell ⟨Q, 1, none⟩ (.int .i64 0)).setCell ⟨Q, 2, none⟩ (.slice A7 n7 c7)).setCell ⟨Q, 3, none⟩ (.int .i64 r.2.2.2.used)) := by exact frcA
    rw [HBIG.out]
    refine ⟨A7, n7, c7, Ft9, ?_, (((HTR.out.below HBb.out).fr HF3.out (fun k hk h2 => by have := HTR.out.lt k hk; rw [List.mem_singleton.1 h2] at this; have := HTE.out; omega)).fr hfQ (fun k hk h2 => by have := HFQ.out k hk; rw [List.mem_singleton.1 h2] at this; omega)), fun k hk => by have := HFQ.out k hk; omega, below_trB (below_trB (below_trB HB1.out (HBb.out.mono HB1.out.size)) (below_frB HF3.out (by have := HBb.out.size; have := HB1.out.size; omega) (fun k hk => by rw [List.mem_singleton.1 hk]; have := HTE.out; have := HB1.out.size; omega))) (below_frB hfQ (by have := HBb.out.size; have := HB1.out.size; have := HF3.out.size; omega) (fun k hk => by rw [List.mem_singleton.1 hk]; omega))⟩
    simp only; rw [HH9.out, if_neg (by have := H3.out; omega), if_neg (by have := H3.out; omega)]
end Go.Proofs.Ytgoinmdnpaknpaa
