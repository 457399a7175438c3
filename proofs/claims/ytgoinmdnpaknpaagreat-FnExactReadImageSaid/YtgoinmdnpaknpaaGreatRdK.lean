/- Codes read back: the reference's walk. -/
import Derived.Test.YtgoinmdnpaknpaaGreatRdJ
import Derived.Test.YtgoinmdnpaknpaaGreatCdC
import Derived.Deep.QuietTactic
import Derived.BigQuiet
set_option linter.unusedVariables false
set_option linter.unusedSimpArgs false
set_option maxRecDepth 100000
namespace Go.Proofs.YtgoinmdnpaknpaaGreat
open Go.RowKit
attribute [local irreducible] wpList
/-- What reading a code tells, in memory that only this call has made. -/
def RetRC (s : ByteArray) (x0 : Int) (w : World) (e : Ending) (w' : World) : Prop :=
  ∃ (A2 : Option Addr) (n2 c2 : Nat) (A3 : Option Addr) (n3 c3 : Nat) (A4 : Option Addr) (n4 c4 : Nat) (F2 F3 F4 : List Nat), e = .returned (.tuple #[.agg #[.int .i64 (rcR s x0).1.1, .int .i64 (rcR s x0).1.2.1, .slice A2 n2 c2, .slice A3 n3 c3, .slice A4 n4 c4], .int .i64 (rcR s x0).2.1, .bool (rcR s x0).2.2]) ∧
    OwnSl intR w' 3 F2 (.slice A2 n2 c2) (rcR s x0).1.2.2.1 ∧ OwnSl InsR w' 67 F3 (.slice A3 n3 c3) (rcR s x0).1.2.2.2.1 ∧ OwnSl RowR w' 71 F4 (.slice A4 n4 c4) (rcR s x0).1.2.2.2.2 ∧ (F2 ++ (F3 ++ F4)).Nodup ∧ (∀ k, k ∈ F2 ++ (F3 ++ F4) → w.heap.size ≤ k) ∧ Below w.heap.size w w'
theorem RetRC.no {s : ByteArray} {x0 : Int} {w w' : World} (h : rcR s x0 = ((0, 0, [], [], []), 0, false)) (hb : Below w.heap.size w w') : RetRC s x0 w (.returned (.tuple #[.agg #[.int .i64 0, .int .i64 0, .slice none 0 0, .slice none 0 0, .slice none 0 0], .int .i64 0, .bool false])) w' := by
  unfold RetRC; rw [h]
  exact ⟨none, 0, 0, none, 0, 0, none, 0, 0, [], [], [], rfl, OwnSl.nil_ .., OwnSl.nil_ .., OwnSl.nil_ .., by simp, by simp, hb⟩
theorem RetRC.yes {s : ByteArray} {x0 x n0 n1 : Int} {ss : List Int} {is : List Ins} {rs : List Row} {A2 A3 A4 : Option Addr} {n2 c2 n3 c3 n4 c4 : Nat} {F2 F3 F4 : List Nat} {w w' : World} (h : rcR s x0 = ((n0, n1, ss, is, rs), x, true)) (o2 : OwnSl intR w' 3 F2 (.slice A2 n2 c2) ss) (o3 : OwnSl InsR w' 67 F3 (.slice A3 n3 c3) is) (o4 : OwnSl RowR w' 71 F4 (.slice A4 n4 c4) rs)
    (nd : (F2 ++ (F3 ++ F4)).Nodup) (hF : ∀ k, k ∈ F2 ++ (F3 ++ F4) → w.heap.size ≤ k) (hb : Below w.heap.size w w') : RetRC s x0 w (.returned (.tuple #[.agg #[.int .i64 n0, .int .i64 n1, .slice A2 n2 c2, .slice A3 n3 c3, .slice A4 n4 c4], .int .i64 x, .bool true])) w' := by
  unfold RetRC; rw [h]
  exact ⟨A2, n2, c2, A3, n3, c3, A4, n4, c4, F2, F3, F4, rfl, o2, o3, o4, nd, hF, hb⟩
theorem ownF_nd {α : Type} {Q : Rp α} {w : World} {e : TypeId} {F : List Nat} {v : Value} {l : List α} (h : OwnSl Q w e F v l) : F.Nodup := by
  obtain ⟨_, _, _, _, _, hn⟩ := h; exact hn
theorem nodup3 {F2 F3 F4 : List Nat} {a b : Nat} (n2 : F2.Nodup) (n3 : F3.Nodup) (n4 : F4.Nodup) (h2 : ∀ k, k ∈ F2 → k < a) (h3 : ∀ k, k ∈ F3 → a ≤ k ∧ k < b) (h4 : ∀ k, k ∈ F4 → b ≤ k) (hab : a ≤ b) : (F2 ++ (F3 ++ F4)).Nodup := by
  rw [List.nodup_append, List.nodup_append]
  refine ⟨n2, ⟨n3, n4, fun x hx y hy e => ?_⟩, fun x hx y hy e => ?_⟩
  · have := h3 x hx; have := h4 y hy; omega
  · have := h2 x hx
    rcases List.mem_append.1 hy with hy | hy
    · have := h3 y hy; omega
    · have := h4 y hy; omega
set_option maxHeartbeats 16000000 in
theorem specL12Read (w : World) (s : ByteArray) (x0 : Int) (hs : s.size ≤ maxLen) (hx : I64 x0) :
    Calls Tryz.prog 11 #[.string s, .int .i64 x0] w (RetRC s x0 w) := by
  go_enter Tryz.func11, Tryz.ntmps11
  go_upto_region 2 with fail
  obtain ⟨W0, hW0⟩ : ∃ W0, W0 = (w.alloc (.cells #[.int .i64 0, .int .i64 0, .slice none 0 0, .slice none 0 0, .slice none 0 0] 39)).alloc (.cells #[.string s, .int .i64 x0, .bool true] 33) := ⟨_, rfl⟩
  obtain ⟨R, hR⟩ : ∃ R, w.heap.size = R := ⟨_, rfl⟩
  obtain ⟨B, hB⟩ : ∃ B, R + 1 = B := ⟨_, rfl⟩
  have hbW : Below w.heap.size w W0 := by rw [hW0]; exact belA
  have HZ := Lib.hid (show CdB W0 R 0 0 (.slice none 0 0) (.slice none 0 0) (.slice none 0 0) from by rw [hW0]; exact below_at (Below.alloc (Below.refl _ _) (Nat.le_refl _) _) (by simp; omega) (alloc_new' hR))
  have HR := Lib.hid (show RdrB W0 B 33 s x0 true from by rw [hW0]; exact alloc_new' (by simp; omega))
  have hRB : R < B := by omega
  have hwR : w.heap.size ≤ R := by omega
  rw [← hW0, hR, hB]
  clear hW0 hR hB
  go_wp2_with fail
  refine (specNumber W0 B s x0 true 2 (by omega) hs hx HR.out).mono ?_
  rintro e w1 ⟨n0, x1, ok1, rfl, ⟨b00, b01⟩, hx1, HN1, HR1, hf1⟩
  have HF1 := Lib.hid (Fol.first HN1.out (by omega))
  have hbl := blk_size HR.out
  have hb1 : Below w.heap.size w w1 := below_fr hbW hf1 (fun k hk => by simp at hk; omega)
  have HZ1 := Lib.hid (show CdB w1 R 0 0 (.slice none 0 0) (.slice none 0 0) (.slice none 0 0) from fr_at hf1 (by simp; omega) HZ.out)
  clear HN1 HR HZ hf1 hbW
  go_wp2_with fail
  refine (specNumber w1 B s x1 ok1 6 (by omega) hs hx1 HR1.out).mono ?_
  rintro e w2 ⟨n1, x2, ok2, rfl, ⟨b10, b11⟩, hx2, HN2, HR2, hf2⟩
  have HF2 := Lib.hid (HF1.out.vars HN2.out (by omega))
  have hb2 : Below w.heap.size w w2 := below_fr hb1 hf2 (fun k hk => by simp at hk; omega)
  have HZ2 := Lib.hid (show CdB w2 R 0 0 (.slice none 0 0) (.slice none 0 0) (.slice none 0 0) from fr_at hf2 (by simp; omega) HZ1.out)
  clear HN2 HR1 HZ1 hf2 hb1 HF1
  have i0 : I64 n0 := by unfold I64; omega
  have i1 : I64 n1 := by unfold I64; omega
  go_upto_region 3 with fail
  obtain ⟨C, hC⟩ : ∃ C, w2.heap.size = C := ⟨_, rfl⟩
  obtain ⟨W3, hW3⟩ : ∃ W3, W3 = w2.alloc (.cells #[.int .i64 n0, .int .i64 n1, .slice none 0 0, .slice none 0 0, .slice none 0 0] 39) := ⟨_, rfl⟩
  have HL := Lib.hid (show LSt w W3 R B C 33 s x2 ok2 n0 n1 (.slice none 0 0) (.slice none 0 0) (.slice none 0 0) from by rw [hW3]; exact LSt.new hb2 hwR hRB HR2.out HZ2.out hC)
  rw [← hW3, hC]
  have hBC := HL.out.at_.2.2
  clear hW3 hC HR2 HZ2 hb2
  go_wp2_with fail
  refine (specNumber W3 B s x2 ok2 4 (by omega) hs hx2 HL.out.rd).mono ?_
  rintro e w3 ⟨m, x3, ok3, rfl, ⟨b20, b21⟩, hx3, HN3, HR3, hf3⟩
  have HF3 := Lib.hid (HF2.out.many HN3.out (by omega))
  have HL3 := Lib.hid (HL.out.num hf3 HR3.out)
  clear HN3 HR3 hf3 HL HF2
  go_wp2_with fail
  go_loopw [9] (fun iv wr => ∃ (cnt x : Int) (ok : Bool) (A : Option Addr) (n c : Nat) (l : List Int) (F : List Nat), iv = .int .i64 cnt ∧ I64 x ∧ (-1 ≤ cnt ∧ cnt ≤ 4) ∧ (l.length : Int) ≤ 4 - cnt ∧ Hid (OwnSl intR wr 3 F (.slice A n c) l) ∧ Hid (∀ j, j ∈ F → C < j) ∧ Hid (Fol s x0 x ok (MS n0 n1 l cnt) (fun c => cp4 c l.length)) ∧ Hid (LSt w wr R B C 33 s x ok n0 n1 (.slice A n c) (.slice none 0 0) (.slice none 0 0))) (fun iv _ => (intOf iv).toNat)
  case atStart => exact ⟨m, x3, ok3, none, 0, 0, [], [], rfl, hx3, ⟨b20, b21⟩, by simp; omega, Lib.hid (OwnSl.nil_ ..), Lib.hid (by simp), HF3, HL3⟩
  case round =>
    clear HF3 HL3
    obtain ⟨cnt, x, ok, A, n, c, l, F, rfl, hxx, ⟨hc0, hc1⟩, hll, HO, HFF, HF, HL⟩ := hrel
    obtain ⟨r0, r1, r2⟩ := HL.out.rd.cells
    obtain ⟨q0, q1, q2, q3, q4⟩ := HL.out.cd.cells
    have hCr : C < wr.heap.size := blk_size HL.out.cd
    have hlen := HO.out.form
    by_cases hgo : 0 < cnt ∧ ok = true
    · obtain ⟨hcp, rfl⟩ := hgo
      go_upto_region 6 with fail
      have hS := Lib.hid (show ∀ V, Fr [B] wr V → V.cell? ⟨C, 2, none⟩ = some (.slice A n c) from fun V hV => cell_fr hV (by simp; omega) q2)
      clear r0 r1 r2 q0 q1 q2 q3 q4
      refine wp_region_noPanic ?_
      refine wp_region_cut (S := (fun V => V.cell? ⟨C, 2, none⟩ = some (.slice A n c))) 7 (by kernel_rfl) (by kernel_rfl) (hS.out _ (by exact frcA)) (fun hR0 => ?_)
      simp only [headOps, List.take_succ_cons, List.take_zero]
      refine takeH 0 ?_
      refine takeH 1 ?_
      refine takeH 2 ?_
      refine wpAnyH_ready (rs := [3]) (by kernel_rfl) (by simp) ?_
      refine AllReadyH.cons (i := 3) rfl (fun K hK => ?_) AllReadyH.nil
      go_simp
      go_at_call 10
      ((with_reducible refine (specNumber _ B s x true 1000000 (by omega) hs hxx (HL.out.rd.below (show Below wr.heap.size wr _ by exact belA))).mono ?_); rintro e w5 ⟨g, x5, ok5, rfl, ⟨b50, b51⟩, hx5, HN5, HR5, hf5⟩)
      have t5 : Fr [B] wr w5 := Fr.trans (show Fr [B] wr _ by exact frcA) hf5
      have HL5 := Lib.hid (HL.out.num t5 HR5.out)
      have HO5 := Lib.hid (HO.out.fr t5 (fun k hk hk2 => by have := HFF.out k hk; simp at hk2; omega))
      have HF5 := Lib.hid (HF.out.site hcp HN5.out (by omega))
      have ig : I64 g := by unfold I64; omega
      have hC5 : C < w5.heap.size := blk_size HL5.out.cd
      clear HN5 HR5 hf5 HF HO HL
      go_wp2_with fail
      refine hK.out _ _ (hS.out _ t5) (fun hR5 => ?_)
      clear hK K
      try simp only [Act.put, List.getElem_toArray, List.getElem_cons_zero, List.getElem_cons_succ, List.setIfInBounds_toArray, List.set_cons_zero, List.set_cons_succ]
      refine wpAnyH_ready (rs := [4]) (by kernel_rfl) (by simp) ?_
      refine AllReadyH.cons (i := 4) rfl (fun K hK => ?_) AllReadyH.nil
      go_simp
      refine hK.out _ _ (below_cell (show Below w5.heap.size w5 _ by exact belA) (hS.out _ t5)) (fun hR6 => ?_)
      clear hK K
      try simp only [Act.put, List.getElem_toArray, List.getElem_cons_zero, List.getElem_cons_succ, List.setIfInBounds_toArray, List.set_cons_zero, List.set_cons_succ]
      refine wpAnyH_ready (rs := [5]) (by kernel_rfl) (by simp) ?_
      refine AllReadyH.cons (i := 5) rfl (fun K hK => ?_) AllReadyH.nil
      refine step_intO (by rfl) _ _ (by rfl) (.slice A n c) l.length l F (by rfl) rfl (HO5.out.below (show Below w5.heap.size w5 _ by exact belA)) w5.heap.size g 3 (by rfl) (alloc_new' rfl) ig (by omega) ?_
      intro A8 n8 c8 w8 F8 HO8 fr8 HF8
      have hown := HO5.out.ownB
      have HL8 := Lib.hid ((HL5.out.below (show Below w5.heap.size w5 (w5.alloc (.cells #[.int .i64 g] 3)) by exact belA)).fr fr8 (fun k hk => HFF.out k (hown k (by simpa using hk))))
      have HFF8 := Lib.hid (show ∀ j, j ∈ F8 → C < j from fun j hj => by
        rcases HF8.out j hj with h | h
        · exact HFF.out j h
        · rw [h]; first | omega | (simp; omega))
      have n82 := HL8.out.cd.cells.2.2.1
      have z82 := blk_frozen HL8.out.cd 2
      refine hK.out _ _ n82 (fun hR7 => ?_)
      clear hK K hown fr8 HF8
      try simp only [Act.put, List.getElem_toArray, List.getElem_cons_zero, List.getElem_cons_succ, List.setIfInBounds_toArray, List.set_cons_zero, List.set_cons_succ]
      refine takeH 6 ?_
      refine wpAnyH_done (by kernel_rfl) ?_ _
      refine lastQ_op rfl (fun K hK => ?_)
      rw [if_pos (by rfl)]
      go_simp
      refine hK _ _ ?_
      clear hK K
      refine NoPanic.normal ?_
      obtain ⟨w9, hw9⟩ : ∃ w9, w9 = w8.setCell ⟨C, 2, none⟩ (.slice A8 n8 c8) := ⟨_, rfl⟩
      have HL9 := Lib.hid (show LSt w w9 R B C 33 s x5 ok5 n0 n1 (.slice A8 n8 c8) (.slice none 0 0) (.slice none 0 0) from by rw [hw9]; exact HL8.out.put2 _)
      have HO9 := Lib.hid (show OwnSl intR w9 3 F8 (.slice A8 n8 c8) (l ++ [g]) from by rw [hw9]; exact HO8.out.fr (Fr.setCell (p := ⟨C, 2, none⟩) (Fr.refl [C] _) (by simp) _) (fun k hk hk2 => by have := HFF8.out k hk; simp at hk2; omega))
      rw [← hw9]
      clear hw9 HL8 HO8 n82 z82 hR0 hR5 hR6 hR7 HO5 HL5
      go_wp2_with fail
      go_roundw
      case rel => exact ⟨cnt - 1, x5, ok5, A8, n8, c8, l ++ [g], F8, rfl, hx5, ⟨by omega, by omega⟩, by simp only [List.length_append, List.length_singleton]; omega, HO9, HFF8, HF5, HL9⟩
      case measure => simp [intOf]; omega
    have hc : ¬ (0 < cnt) ∨ (0 < cnt ∧ ok = false) := by
      by_cases h1 : 0 < cnt
      · cases ok
        · exact Or.inr ⟨h1, rfl⟩
        · exact absurd ⟨h1, rfl⟩ hgo
      · exact Or.inl h1
    have HE := Lib.hid (HF.out.sitesEnd (fun h1 => by
      rcases hc with h2 | ⟨_, h2⟩
      · omega
      · rw [h2] at h1; cases h1))
    clear hgo HF
    have hCB : B < C := hBC
    rcases hc with h1 | ⟨h1, rfl⟩
    all_goals
      go_wp2_with fail
      refine (specNumber wr B s x _ 300 (by omega) hs hxx HL.out.rd).mono ?_
      rintro e w4 ⟨m4, x4, ok4, rfl, ⟨b30, b31⟩, hx4, HN4, HR4, hf4⟩
      have HE4 := Lib.hid (HE.out.manyI HN4.out (by omega))
      have HL4 := Lib.hid (HL.out.num hf4 HR4.out)
      have HO4 := Lib.hid (HO.out.fr hf4 (fun k hk hk2 => by have := HFF.out k hk; simp at hk2; omega))
      have hlF := Lib.hid HO4.out.lt
      have hC4 : C < w4.heap.size := blk_size HL4.out.cd
      clear HE HL HO HN4 HR4 hf4 r0 r1 r2 q0 q1 q2 q3 q4 h1
      go_wp2_with fail
      refine (specIns w4 B s x4 m4 ok4 hs hx4 ⟨b30, b31⟩ HL4.out.rd).mono ?_
      rintro e w5 ⟨A3, n3, c3, li, x5, ok5, F3, rfl, hx5, HO3, HF3, hli, HI, HR5, hf5⟩
      have HE5 := Lib.hid (HI.out _ _ _ _ HE4.out)
      have HL5 := Lib.hid (HL4.out.num hf5 HR5.out)
      have HO5 := Lib.hid (HO4.out.fr hf5 (fun k hk hk2 => by have := HFF.out k hk; simp at hk2; omega))
      have n53 := HL5.out.cd.cells.2.2.2.1
      have z53 := blk_frozen HL5.out.cd 3
      have hz45 := hf5.size
      have hlF3 := Lib.hid HO3.out.lt
      clear HE4 HL4 HO4 HI HR5 hf5
      go_upto_region 8 with fail
      obtain ⟨w6, hw6⟩ : ∃ w6, w6 = w5.setCell ⟨C, 3, none⟩ (.slice A3 n3 c3) := ⟨_, rfl⟩
      have hf56 : Fr [C] w5 w6 := by rw [hw6]; exact Fr.setCell (p := ⟨C, 3, none⟩) (Fr.refl [C] _) (by simp) _
      have HL6 := Lib.hid (show LSt w w6 R B C 33 s x5 ok5 n0 n1 (.slice A n c) (.slice A3 n3 c3) (.slice none 0 0) from by rw [hw6]; exact HL5.out.put3 _)
      have HO6 := Lib.hid (HO5.out.fr hf56 (fun k hk hk2 => by have := HFF.out k hk; simp at hk2; omega))
      have HO36 := Lib.hid (HO3.out.fr hf56 (fun k hk hk2 => by have := HF3.out k hk; simp at hk2; omega))
      have hz56 := hf56.size
      rw [← hw6]
      clear hw6 HL5 HO5 HO3 n53 z53 hf56
      go_wp2_with fail
      refine (specRows w6 B s x5 ok5 hs hx5 HL6.out.rd).mono ?_
      rintro e w7 ⟨A4, n4, c4, lr, x7, ok7, F4, rfl, hx7, HO47, HF4, hlr, HRW, HR7, hf7⟩
      have HE7 := Lib.hid (HE5.out.rows (HRW.out li.length) (fun _ => rfl))
      have HL7 := Lib.hid (HL6.out.num hf7 HR7.out)
      have HO7 := Lib.hid (HO6.out.fr hf7 (fun k hk hk2 => by have := HFF.out k hk; simp at hk2; omega))
      have HO37 := Lib.hid (HO36.out.fr hf7 (fun k hk hk2 => by have := HF3.out k hk; simp at hk2; omega))
      have n74 := HL7.out.cd.cells.2.2.2.2
      have z74 := blk_frozen HL7.out.cd 4
      clear HE5 HL6 HO6 HO36 HRW HR7 hf7
      go_upto_region 9 with fail
      obtain ⟨w8, hw8⟩ : ∃ w8, w8 = w7.setCell ⟨C, 4, none⟩ (.slice A4 n4 c4) := ⟨_, rfl⟩
      have hf78 : Fr [C] w7 w8 := by rw [hw8]; exact Fr.setCell (p := ⟨C, 4, none⟩) (Fr.refl [C] _) (by simp) _
      have HL8 := Lib.hid (show LSt w w8 R B C 33 s x7 ok7 n0 n1 (.slice A n c) (.slice A3 n3 c3) (.slice A4 n4 c4) from by rw [hw8]; exact HL7.out.put4 _)
      have HO2 := Lib.hid (HO7.out.fr hf78 (fun k hk hk2 => by have := HFF.out k hk; simp at hk2; omega))
      have HO3 := Lib.hid (HO37.out.fr hf78 (fun k hk hk2 => by have := HF3.out k hk; simp at hk2; omega))
      have HO4 := Lib.hid (HO47.out.fr hf78 (fun k hk hk2 => by have := HF4.out k hk; simp at hk2; omega))
      have HND := Lib.hid (show (F ++ (F3 ++ F4)).Nodup ∧ (∀ k, k ∈ F ++ (F3 ++ F4) → C < k) from by
        refine ⟨nodup3 (a := w4.heap.size) (b := w6.heap.size) (ownF_nd HO2.out) (ownF_nd HO3.out) (ownF_nd HO4.out) (fun k hk => hlF.out k hk) (fun k hk => ⟨HF3.out k hk, by have := hlF3.out k hk; omega⟩) (fun k hk => HF4.out k hk) (by omega), fun k hk => ?_⟩
        simp only [List.mem_append] at hk
        rcases hk with hk | hk | hk
        · exact HFF.out k hk
        · have := HF3.out k hk; omega
        · have := HF4.out k hk; omega)
      rw [← hw8]
      clear hw8 HL7 HO7 HO37 HO47 n74 z74 hf78
      obtain ⟨r0, r1, r2⟩ := HL8.out.rd.cells
      obtain ⟨q0, q1, q2, q3, q4⟩ := HL8.out.cd.cells
      obtain ⟨z0, z1, z2, z3, z4⟩ := HL8.out.rz.cells
      have zf := blk_frozen HL8.out.rz
      have hR8 : R < w8.heap.size := blk_size HL8.out.rz
      cases ok7
      · have hno := Lib.hid HE7.out.dead
        go_quiet (fail)
        go_wp2_with fail
        have hbl8 := HL8.out.bl
        have HZf := Lib.hid (show CdB (w8.drewN nq) R 0 0 (.slice none 0 0) (.slice none 0 0) (.slice none 0 0) from HL8.out.rz)
        obtain ⟨f0, f1, f2, f3, f4⟩ := (HZf.out.all (n0 := 0) (n1 := 0) (v2 := .slice none 0 0) (v3 := .slice none 0 0) (v4 := .slice none 0 0)).cells
        refine bodyPost_ret (v := .tuple #[.agg #[.int .i64 0, .int .i64 0, .slice none 0 0, .slice none 0 0, .slice none 0 0], .int .i64 0, .bool false]) (by simp [results, Tryz.results11, go_sem, f0, f1, f2, f3, f4]) rfl ?_
        exact RetRC.no hno.out (by exact beloA)
      obtain ⟨y1, y2, y3, y4⟩ := HE7.out.1 rfl
      have hbl8 := HL8.out.bl
      obtain ⟨_, _, _, he2, hn2⟩ := HO2.out.form
      obtain ⟨_, _, _, he3, hn3⟩ := HO3.out.form
      obtain ⟨_, _, _, he4, hn4⟩ := HO4.out.form
      simp only [Value.slice.injEq] at he2 he3 he4
      have HN2 := Lib.hid (show n = l.length by omega)
      have HN3 := Lib.hid (show n3 = li.length by omega)
      have HN4 := Lib.hid (show n4 = lr.length by omega)
      clear he2 he3 he4 hn2 hn3 hn4
      have hn3b : n3 ≤ 301 := by have := HN3.out; omega
      obtain ⟨g, hg⟩ : ∃ g, cbB (n0, n1, l, li, lr) = g := ⟨_, rfl⟩
      have HG := Lib.hid hg
      clear hg
      have hS := Lib.hid (show ∀ V, Below w8.heap.size w8 V → V.cell? ⟨C, 0, none⟩ = some (.int .i64 n0) ∧ V.cell? ⟨C, 1, none⟩ = some (.int .i64 n1) ∧ V.cell? ⟨C, 2, none⟩ = some (.slice A n c) ∧ V.cell? ⟨C, 3, none⟩ = some (.slice A3 n3 c3) ∧ V.cell? ⟨C, 4, none⟩ = some (.slice A4 n4 c4) ∧ V.cell? ⟨B, 0, none⟩ = some (.string s) ∧ V.cell? ⟨B, 1, none⟩ = some (.int .i64 x7) ∧ V.cell? ⟨B, 2, none⟩ = some (.bool true) from fun V hV => by
        have hL := HL8.out.below hV
        obtain ⟨a0, a1, a2, a3, a4⟩ := hL.cd.cells
        obtain ⟨b0, b1, b2⟩ := hL.rd.cells
        exact ⟨a0, a1, a2, a3, a4, b0, b1, b2⟩)
      cases g
      · have hno := Lib.hid (HE7.out.wrong (fun hc _ _ _ => by rw [HG.out] at hc; cases hc))
        clear zf z0 z1 z2 z3 z4 r0 r1 r2 q0 q1 q2 q3 q4
        refine wp_region_noPanic ?_
        refine wp_region_hd (S := (fun V => V.cell? ⟨C, 0, none⟩ = some (.int .i64 n0) ∧ V.cell? ⟨C, 1, none⟩ = some (.int .i64 n1) ∧ V.cell? ⟨C, 2, none⟩ = some (.slice A n c) ∧ V.cell? ⟨C, 3, none⟩ = some (.slice A3 n3 c3) ∧ V.cell? ⟨C, 4, none⟩ = some (.slice A4 n4 c4) ∧ V.cell? ⟨B, 0, none⟩ = some (.string s) ∧ V.cell? ⟨B, 1, none⟩ = some (.int .i64 x7) ∧ V.cell? ⟨B, 2, none⟩ = some (.bool true))) 22 (by kernel_rfl) (by kernel_rfl) (hS.out _ (show Below w8.heap.size w8 _ by exact beloA)) (fun hR0 => ?_)
        refine takeH 0 ?_
        refine takeH 1 ?_
        refine takeH 2 ?_
        refine takeH 3 ?_
        refine takeH 4 ?_
        refine takeH 5 ?_
        refine takeH 6 ?_
        refine wpAnyH_ready (rs := [7]) (by kernel_rfl) (by simp) ?_
        refine AllReadyH.cons (i := 7) rfl (fun K hK => ?_) AllReadyH.nil
        go_simp
        go_at_call 22
        ((with_reducible refine (specL12Sized _ n0 n1 A A3 A4 n c n3 c3 n4 c4 l li lr (HO2.out.sl.next (show Below w8.heap.size w8 _ by exact beloA)) (HO3.out.sl.next (show Below w8.heap.size w8 _ by exact beloA)) (HO4.out.sl.next (show Below w8.heap.size w8 _ by exact beloA)) (by omega) i0 i1).mono ?_);  rintro e wa ⟨rfl, ba⟩; rw [HG.out]; have ta : Below w8.heap.size w8 wa := (by exact beloA); have ya := ta.size)
        go_wp2_with fail
        refine hK.out _ _ (hS.out _ ta) (fun hR7 => ?_)
        clear hK K
        try simp only [Act.put, List.getElem_toArray, List.getElem_cons_zero, List.getElem_cons_succ, List.setIfInBounds_toArray, List.set_cons_zero, List.set_cons_succ]
        refine takeH 8 ?_
        refine takeH 9 ?_
        refine takeH 10 ?_
        refine takeG 11 ?_
        refine takeG 12 ?_
        refine takeG 13 ?_
        refine takeG 14 ?_
        refine takeG 15 ?_
        refine takeG 16 ?_
        refine takeG 17 ?_
        refine takeG 18 ?_
        refine takeG 19 ?_
        refine takeG 20 ?_
        refine takeH 21 ?_
        refine wpAnyH_done (by kernel_rfl) ?_ _
        refine NoPanic.normal ?_
        have RZ := Lib.hid (HL8.out.below ta).rz
        obtain ⟨z0, z1, z2, z3, z4⟩ := RZ.out.cells
        have zf := blk_frozen RZ.out
        have hRa : R < wa.heap.size := blk_size RZ.out
        have hbla : Below w.heap.size w wa := below_then hbl8 ta
        go_wp2_with fail
        obtain ⟨f0, f1, f2, f3, f4⟩ := (RZ.out.all (n0 := 0) (n1 := 0) (v2 := .slice none 0 0) (v3 := .slice none 0 0) (v4 := .slice none 0 0)).cells
        refine bodyPost_ret (v := .tuple #[.agg #[.int .i64 0, .int .i64 0, .slice none 0 0, .slice none 0 0, .slice none 0 0], .int .i64 0, .bool false]) (by simp [results, Tryz.results11, go_sem, f0, f1, f2, f3, f4]) rfl ?_
        exact RetRC.no hno.out (by exact beloA)
      obtain ⟨p0', p1', l2, l3, l4, hii, hrw, hss⟩ := cbB_parts HG.out
      obtain ⟨p0, rfl⟩ := Int.eq_ofNat_of_zero_le p0'.1
      obtain ⟨p1, rfl⟩ := Int.eq_ofNat_of_zero_le (show 0 ≤ n1 by omega)
      obtain ⟨a0, rfl⟩ := Int.eq_ofNat_of_zero_le y1
      obtain ⟨a7, rfl⟩ := Int.eq_ofNat_of_zero_le (show 0 ≤ x7 by omega)
      have HSS := Lib.hid hss
      have HII := Lib.hid hii
      have HRW := Lib.hid (show rowsB lr n3 = true by rw [HN3.out]; exact hrw)
      have l0 : p0 ≤ 2 := by omega
      have l1 : p1 ≤ 6 := by omega
      have e2 : n ≤ 4 := by have := HN2.out; omega
      have e3 : n3 ≤ 300 := by have := HN3.out; omega
      have e4 : n4 ≤ 300 := by have := HN4.out; omega
      obtain ⟨o, ho⟩ : ∃ o : ByteArray, (⟨(cbL ((p0 : Int), (p1 : Int), l, li, lr)).toArray⟩ : ByteArray) = o := ⟨_, rfl⟩
      have HCB := Lib.hid (show ∀ s6 : ByteArray, s6.data.toList = cdB p0 p1 l li lr → s6 = o from fun s6 h => by
        rw [← ho]
        unfold cbL
        simp only [Int.toNat_natCast]
        rw [← h])
      have HOL := Lib.hid (show o.data.toList = cbL ((p0 : Int), (p1 : Int), l, li, lr) by rw [← ho])
      obtain ⟨t, ht⟩ : ∃ t, s.extract a0 a7 = t := ⟨_, rfl⟩
      have hslc : ∀ V, (Instr.slice 9 (.string s) (some (.int .i64 (a0 : Int))) (some (.int .i64 (a7 : Int))) none).run Tryz.prog V = .ok (.string t) V := fun V => by
        rw [run_slice_string V 9 s .i64 .i64 (a0 : Int) (a7 : Int) Tryz.underlying9 (by omega) (by omega) y3, ← ht]
        simp only [Int.toNat_natCast]
      have HTT := Lib.hid (show t.data.toList = (s.data.toList.drop a0).take (a7 - a0) by rw [← ht, ByteArray.data_extract, Array.toList_extract])
      clear ho ht hii hrw hss l2 l3 l4 p0' p1' zf z0 z1 z2 z3 z4 r0 r1 r2 q0 q1 q2 q3 q4
      by_cases E : o = t
      · subst E
        refine wp_region_noPanic ?_
        refine wp_region_hd (S := (fun V => V.cell? ⟨C, 0, none⟩ = some (.int .i64 (p0 : Int)) ∧ V.cell? ⟨C, 1, none⟩ = some (.int .i64 (p1 : Int)) ∧ V.cell? ⟨C, 2, none⟩ = some (.slice A n c) ∧ V.cell? ⟨C, 3, none⟩ = some (.slice A3 n3 c3) ∧ V.cell? ⟨C, 4, none⟩ = some (.slice A4 n4 c4) ∧ V.cell? ⟨B, 0, none⟩ = some (.string s) ∧ V.cell? ⟨B, 1, none⟩ = some (.int .i64 (a7 : Int)) ∧ V.cell? ⟨B, 2, none⟩ = some (.bool true))) 22 (by kernel_rfl) (by kernel_rfl) (hS.out _ (show Below w8.heap.size w8 _ by exact beloA)) (fun hR0 => ?_)
        refine takeH 0 ?_
        refine takeH 1 ?_
        refine takeH 2 ?_
        refine takeH 3 ?_
        refine takeH 4 ?_
        refine takeH 5 ?_
        refine takeH 6 ?_
        refine wpAnyH_ready (rs := [7]) (by kernel_rfl) (by simp) ?_
        refine AllReadyH.cons (i := 7) rfl (fun K hK => ?_) AllReadyH.nil
        go_simp
        go_at_call 22
        ((with_reducible refine (specL12Sized _ (p0 : Int) (p1 : Int) A A3 A4 n c n3 c3 n4 c4 l li lr (HO2.out.sl.next (show Below w8.heap.size w8 _ by exact beloA)) (HO3.out.sl.next (show Below w8.heap.size w8 _ by exact beloA)) (HO4.out.sl.next (show Below w8.heap.size w8 _ by exact beloA)) (by omega) i0 i1).mono ?_);  rintro e wa ⟨rfl, ba⟩; rw [HG.out]; have ta : Below w8.heap.size w8 wa := (by exact beloA); have ya := ta.size)
        go_wp2_with fail
        refine hK.out _ _ (hS.out _ ta) (fun hR7 => ?_)
        clear hK K
        try simp only [Act.put, List.getElem_toArray, List.getElem_cons_zero, List.getElem_cons_succ, List.setIfInBounds_toArray, List.set_cons_zero, List.set_cons_succ]
        refine takeH 8 ?_
        refine takeH 9 ?_
        refine takeH 10 ?_
        refine takeH 11 ?_
        refine takeH 13 ?_
        refine takeH 14 ?_
        refine takeH 15 ?_
        refine takeH 16 ?_
        refine takeH 17 ?_
        refine takeH 18 ?_
        refine takeH 19 ?_
        refine wpAnyH_ready (rs := [12]) (by kernel_rfl) (by simp) ?_
        refine AllReadyH.cons (i := 12) rfl (fun K hK => ?_) AllReadyH.nil
        go_simp
        go_at_call 23
        ((with_reducible refine (specL12Code _ 0 w8.heap.size p0 p1 A A3 A4 n c n3 c3 n4 c4 l li lr (HO2.out.sl.below (show Below w8.heap.size w8 _ by exact beloA) (Nat.le_refl _)) (HO3.out.sl.below (show Below w8.heap.size w8 _ by exact beloA) (Nat.le_refl _)) (HO4.out.sl.below (show Below w8.heap.size w8 _ by exact beloA) (Nat.le_refl _)) (by omega) l0 l1 e2 e3 e4 HSS.out HII.out HRW.out).mono ?_); rintro e wb ⟨s6, rfl, h6, z6, bb⟩; obtain rfl : s6 = o := HCB.out s6 h6; clear h6 z6; have tb : Below w8.heap.size w8 wb := below_then ta bb; have yb := tb.size)
        go_wp2_with fail
        refine hK.out _ _ (hS.out _ tb) (fun hR12 => ?_)
        clear hK K
        try simp only [Act.put, List.getElem_toArray, List.getElem_cons_zero, List.getElem_cons_succ, List.setIfInBounds_toArray, List.set_cons_zero, List.set_cons_succ]
        refine takeH 20 ?_
        refine takeH 21 ?_
        refine wpAnyH_done (by kernel_rfl) ?_ _
        refine NoPanic.normal ?_
        have HLb := Lib.hid (HL8.out.below tb)
        obtain ⟨k0, k1, k2, k3, k4⟩ := HLb.out.cd.cells
        obtain ⟨r0, r1, r2⟩ := HLb.out.rd.cells
        obtain ⟨z0, z1, z2, z3, z4⟩ := HLb.out.rz.cells
        have zf := blk_frozen HLb.out.rz
        have hRa : R < wb.heap.size := blk_size HLb.out.rz
        have hblb : Below w.heap.size w wb := below_then hbl8 tb
        have hRC : R ≠ C ∧ R ≠ B := by omega
        obtain ⟨hRC1, hRC2⟩ := hRC
        have hres := Lib.hid (HE7.out.right HG.out y4 rfl rfl (by omega) (by omega) (by rw [← HTT.out, HOL.out]))
        go_upto_region 11 with fail
        refine wp_region_noPanic ?_
        refine wp_region_hd (S := (fun V => V.cell? ⟨C, 0, none⟩ = some (.int .i64 (p0 : Int)) ∧ V.cell? ⟨C, 1, none⟩ = some (.int .i64 (p1 : Int)) ∧ V.cell? ⟨C, 2, none⟩ = some (.slice A n c) ∧ V.cell? ⟨C, 3, none⟩ = some (.slice A3 n3 c3) ∧ V.cell? ⟨C, 4, none⟩ = some (.slice A4 n4 c4) ∧ V.cell? ⟨B, 1, none⟩ = some (.int .i64 (a7 : Int)))) 8 (by kernel_rfl) (by kernel_rfl) ⟨k0, k1, k2, k3, k4, r1⟩ (fun hR0 => ?_)
        refine takeH 0 ?_
        refine takeH 1 ?_
        refine takeH 2 ?_
        refine takeH 3 ?_
        refine takeH 4 ?_
        refine wpAnyH_ready (rs := [5]) (by kernel_rfl) (by simp) ?_
        refine AllReadyH.cons (i := 5) rfl (fun K hK => ?_) AllReadyH.nil
        go_simp
        have hfr : Fr [R] wb ((((((wb.setCell ⟨R, 0, none⟩ (.int .i64 (p0 : Int))).setCell ⟨R, 1, none⟩ (.int .i64 (p1 : Int))).setCell ⟨R, 2, none⟩ (.slice A n c)).setCell ⟨R, 3, none⟩ (.slice A3 n3 c3)).setCell ⟨R, 4, none⟩ (.slice A4 n4 c4)).drew) := by exact frcA
        have nC : C ∉ [R] := by simp; omega
        have nB : B ∉ [R] := by simp; omega
        refine hK.out _ _ ⟨cell_fr hfr nC k0, cell_fr hfr nC k1, cell_fr hfr nC k2, cell_fr hfr nC k3, cell_fr hfr nC k4, cell_fr hfr nB r1⟩ (fun hR5 => ?_)
        clear hK K
        try simp only [Act.put, List.getElem_toArray, List.getElem_cons_zero, List.getElem_cons_succ, List.setIfInBounds_toArray, List.set_cons_zero, List.set_cons_succ]
        refine takeH 6 ?_
        refine takeH 7 ?_
        refine wpAnyH_done (by kernel_rfl) ?_ _
        refine NoPanic.normal ?_
        go_wp2_with fail
        obtain ⟨f0, f1, f2, f3, f4⟩ := (HLb.out.rz.all (n0 := (p0 : Int)) (n1 := (p1 : Int)) (v2 := .slice A n c) (v3 := .slice A3 n3 c3) (v4 := .slice A4 n4 c4)).cells
        have tf : Fr [R] w8 _ := Fr.trans (Fr.of_below tb) hfr
        refine bodyPost_ret (v := .tuple #[.agg #[.int .i64 (p0 : Int), .int .i64 (p1 : Int), .slice A n c, .slice A3 n3 c3, .slice A4 n4 c4], .int .i64 (a7 : Int), .bool true]) (by simp [results, Tryz.results11, go_sem, f0, f1, f2, f3, f4]) rfl ?_
        have hap : ∀ k, k ∈ F ++ (F3 ++ F4) → k ∉ [R] := fun k hk h => by have := HND.out.2 k hk; simp at h; omega
        exact RetRC.yes hres.out (HO2.out.fr tf (fun k hk => hap k (List.mem_append_left _ hk))) (HO3.out.fr tf (fun k hk => hap k (List.mem_append_right _ (List.mem_append_left _ hk)))) (HO4.out.fr tf (fun k hk => hap k (List.mem_append_right _ (List.mem_append_right _ hk)))) HND.out.1 (fun k hk => by have := HND.out.2 k hk; omega) (below_fr hblb hfr (fun k hk => by simp at hk; omega))
      · have hne := bytes_ne E
        have hno := Lib.hid (HE7.out.wrong (fun hc a ha h => E (by
          obtain rfl : a0 = a := by omega
          rw [Int.toNat_natCast] at h
          have h2 : t.data.toList = o.data.toList := by rw [HTT.out, HOL.out]; exact h
          cases o; cases t; simp only at h2; congr 1; exact (Array.toList_inj.1 h2).symm)))
        refine wp_region_noPanic ?_
        refine wp_region_hd (S := (fun V => V.cell? ⟨C, 0, none⟩ = some (.int .i64 (p0 : Int)) ∧ V.cell? ⟨C, 1, none⟩ = some (.int .i64 (p1 : Int)) ∧ V.cell? ⟨C, 2, none⟩ = some (.slice A n c) ∧ V.cell? ⟨C, 3, none⟩ = some (.slice A3 n3 c3) ∧ V.cell? ⟨C, 4, none⟩ = some (.slice A4 n4 c4) ∧ V.cell? ⟨B, 0, none⟩ = some (.string s) ∧ V.cell? ⟨B, 1, none⟩ = some (.int .i64 (a7 : Int)) ∧ V.cell? ⟨B, 2, none⟩ = some (.bool true))) 22 (by kernel_rfl) (by kernel_rfl) (hS.out _ (show Below w8.heap.size w8 _ by exact beloA)) (fun hR0 => ?_)
        refine takeH 0 ?_
        refine takeH 1 ?_
        refine takeH 2 ?_
        refine takeH 3 ?_
        refine takeH 4 ?_
        refine takeH 5 ?_
        refine takeH 6 ?_
        refine wpAnyH_ready (rs := [7]) (by kernel_rfl) (by simp) ?_
        refine AllReadyH.cons (i := 7) rfl (fun K hK => ?_) AllReadyH.nil
        go_simp
        go_at_call 22
        ((with_reducible refine (specL12Sized _ (p0 : Int) (p1 : Int) A A3 A4 n c n3 c3 n4 c4 l li lr (HO2.out.sl.next (show Below w8.heap.size w8 _ by exact beloA)) (HO3.out.sl.next (show Below w8.heap.size w8 _ by exact beloA)) (HO4.out.sl.next (show Below w8.heap.size w8 _ by exact beloA)) (by omega) i0 i1).mono ?_);  rintro e wa ⟨rfl, ba⟩; rw [HG.out]; have ta : Below w8.heap.size w8 wa := (by exact beloA); have ya := ta.size)
        go_wp2_with fail
        refine hK.out _ _ (hS.out _ ta) (fun hR7 => ?_)
        clear hK K
        try simp only [Act.put, List.getElem_toArray, List.getElem_cons_zero, List.getElem_cons_succ, List.setIfInBounds_toArray, List.set_cons_zero, List.set_cons_succ]
        refine takeH 8 ?_
        refine takeH 9 ?_
        refine takeH 10 ?_
        refine takeH 11 ?_
        refine takeH 13 ?_
        refine takeH 14 ?_
        refine takeH 15 ?_
        refine takeH 16 ?_
        refine takeH 17 ?_
        refine takeH 18 ?_
        refine takeH 19 ?_
        refine wpAnyH_ready (rs := [12]) (by kernel_rfl) (by simp) ?_
        refine AllReadyH.cons (i := 12) rfl (fun K hK => ?_) AllReadyH.nil
        go_simp
        go_at_call 23
        ((with_reducible refine (specL12Code _ 0 w8.heap.size p0 p1 A A3 A4 n c n3 c3 n4 c4 l li lr (HO2.out.sl.below (show Below w8.heap.size w8 _ by exact beloA) (Nat.le_refl _)) (HO3.out.sl.below (show Below w8.heap.size w8 _ by exact beloA) (Nat.le_refl _)) (HO4.out.sl.below (show Below w8.heap.size w8 _ by exact beloA) (Nat.le_refl _)) (by omega) l0 l1 e2 e3 e4 HSS.out HII.out HRW.out).mono ?_); rintro e wb ⟨s6, rfl, h6, z6, bb⟩; obtain rfl : s6 = o := HCB.out s6 h6; clear h6 z6; have tb : Below w8.heap.size w8 wb := below_then ta bb; have yb := tb.size)
        go_wp2_with fail
        refine hK.out _ _ (hS.out _ tb) (fun hR12 => ?_)
        clear hK K
        try simp only [Act.put, List.getElem_toArray, List.getElem_cons_zero, List.getElem_cons_succ, List.setIfInBounds_toArray, List.set_cons_zero, List.set_cons_succ]
        refine takeH 20 ?_
        refine takeH 21 ?_
        refine wpAnyH_done (by kernel_rfl) ?_ _
        refine NoPanic.normal ?_
        have RZ := Lib.hid (HL8.out.below tb).rz
        obtain ⟨z0, z1, z2, z3, z4⟩ := RZ.out.cells
        have zf := blk_frozen RZ.out
        have hRa : R < wb.heap.size := blk_size RZ.out
        have hbla : Below w.heap.size w wb := below_then hbl8 tb
        go_wp2_with fail
        obtain ⟨f0, f1, f2, f3, f4⟩ := (RZ.out.all (n0 := 0) (n1 := 0) (v2 := .slice none 0 0) (v3 := .slice none 0 0) (v4 := .slice none 0 0)).cells
        refine bodyPost_ret (v := .tuple #[.agg #[.int .i64 0, .int .i64 0, .slice none 0 0, .slice none 0 0, .slice none 0 0], .int .i64 0, .bool false]) (by simp [results, Tryz.results11, go_sem, f0, f1, f2, f3, f4]) rfl ?_
        exact RetRC.no hno.out (by exact beloA)
end Go.Proofs.YtgoinmdnpaknpaaGreat
