/- Several texts in one: RmP, RmI, RmT, RmS. -/
import Derived.Test.YtgoinmdnpaknpaaGreatRdN
import Derived.Test.YtgoinmdnpaknpaaGreatImBy
import Derived.Test.YtgoinmdnpaknpaaGreatKit1
import Derived.Deep.RegionHeld3
import Derived.Test.YtgoinmdnpaknpaaGreatRegCut

/- An image read back from its bytes: plain law. -/
set_option linter.unusedVariables false
set_option linter.unusedSimpArgs false
namespace Go.Proofs.YtgoinmdnpaknpaaGreat
open Go.RowKit
/-- So many codes, one behind the other. -/
noncomputable def rdL (s : ByteArray) : Nat → Int → List Code → List Code × Int × Bool
  | 0, x, l => (l, x, true)
  | k + 1, x, l => if (rcR s x).2.2 = true then rdL s k (rcR s x).2.1 (l ++ [(rcR s x).1]) else ([], 0, false)
/-- A byte of a text. -/
def gb (s : ByteArray) (k : Nat) : Nat := (s.data.toList.getD k 0).toNat
theorem gb_at {s : ByteArray} {k : Nat} (h : k < s.size) : gb s k = (s[k]).toNat := by
  have h1 : k < s.data.toList.length := by rw [Array.length_toList]; exact h
  unfold gb
  rw [List.getD_eq_getElem?_getD, List.getElem?_eq_getElem h1]; rfl
theorem gb_lt (s : ByteArray) (k : Nat) : gb s k < 256 := by unfold gb; exact UInt8.toNat_lt _
/-- The codes of an image's text ahead of its sum. -/
noncomputable def bodyR (b : ByteArray) : List Code × Bool :=
  if 0 < b.size ∧ 1 ≤ gb b 0 ∧ gb b 0 ≤ 5 ∧ (rdL b (gb b 0) 1 []).2.2 = true ∧ (rdL b (gb b 0) 1 []).2.1 = (b.size : Int) then ((rdL b (gb b 0) 1 []).1, true) else ([], false)
theorem bodyR_no {b : ByteArray} (h : ¬ (0 < b.size ∧ 1 ≤ gb b 0 ∧ gb b 0 ≤ 5)) : bodyR b = ([], false) := by
  unfold bodyR; rw [if_neg (fun h1 => h ⟨h1.1, h1.2.1, h1.2.2.1⟩)]
theorem bodyR_yes {b : ByteArray} {n : Nat} (h : 0 < b.size ∧ 1 ≤ n ∧ n ≤ 5) (hn : gb b 0 = n) : bodyR b = if (rdL b n 1 []).2.2 = true ∧ (rdL b n 1 []).2.1 = (b.size : Int) then ((rdL b n 1 []).1, true) else ([], false) := by
  subst hn
  unfold bodyR
  by_cases h1 : (rdL b (gb b 0) 1 []).2.2 = true ∧ (rdL b (gb b 0) 1 []).2.1 = (b.size : Int)
  · rw [if_pos h1, if_pos ⟨h.1, h.2.1, h.2.2, h1.1, h1.2⟩]
  · rw [if_neg h1, if_neg (fun h2 => h1 ⟨h2.2.2.2.1, h2.2.2.2.2⟩)]
/-- What a reader of the number of codes tells. -/
theorem cnt_of {b : ByteArray} {n en : Int} (h : SndI b 0 n en) (hn : n ≤ 5) : 0 < b.size ∧ (gb b 0 : Int) = n ∧ en = 1 := by
  obtain ⟨a, m, ha, hm, h1, h2⟩ := h
  have e : a = 0 := by omega
  subst e
  have h3 : uB m = [UInt8.ofNat m] := uB_small (by omega)
  rw [h3] at h1 h2
  have h4 := h1.len
  simp only [List.length_cons, List.length_nil] at h4 h2
  have h5 := h1.at (k := 0) (by simp) (by omega)
  simp only [Nat.zero_add, List.getElem_cons_zero] at h5
  refine ⟨by omega, ?_, by omega⟩
  rw [gb_at (by omega), h5, UInt8.toNat_ofNat']
  omega
theorem stt_cnt {b : ByteArray} (h : 0 < b.size) (hn : gb b 0 ≤ 5) : Stt b 0 (uB (gb b 0)) := by
  rw [uB_small (by omega)]
  refine ⟨by omega, b.data.toList.drop 1, ?_⟩
  have h1 : 0 < b.data.toList.length := by rw [Array.length_toList]; exact h
  rw [List.drop_zero]
  have e : b.data.toList = b.data.toList[0] :: b.data.toList.drop 1 := by
    conv => lhs; rw [← List.drop_zero (l := b.data.toList), List.drop_eq_getElem_cons h1]
  have e2 : UInt8.ofNat (gb b 0) = b.data.toList[0] := by
    unfold gb
    rw [List.getD_eq_getElem?_getD, List.getElem?_eq_getElem h1, Option.getD_some, UInt8.ofNat_toNat]
  rw [e2]
  exact e
theorem tg_cnt {b : ByteArray} (h : 0 < b.size) (hz : b.size ≤ 2000) (hn : gb b 0 ≤ 5) : ∃ l e, Tg b 0 (uB (gb b 0) ++ l) e := by
  obtain ⟨h1, rest, h2⟩ := stt_cnt h hn
  exact ⟨rest, _, 0, rfl, hz, ⟨h1, [], by rw [h2]; simp⟩, rfl⟩
/-- An image of its text: a code of what is wrong, and whether nothing is. -/
noncomputable def riR (s : ByteArray) : Image × Int × Bool :=
  if s.size ≤ 2000 ∧ 4 ≤ s.size ∧ gb s (s.size - 1) = 1 then
    if sumF (s.extract 0 (s.size - 3)).data.toList = (gb s (s.size - 3) * 256 + gb s (s.size - 2) : Nat) then
      if (bodyR (s.extract 0 (s.size - 3))).2 = true then
        if goodI (bodyR (s.extract 0 (s.size - 3))).1 = true then ((bodyR (s.extract 0 (s.size - 3))).1, 0, true) else ([], 4, false)
      else ([], 3, false)
    else ([], 2, false)
  else ([], 1, false)
theorem riR_1 {s : ByteArray} (h : ¬ (s.size ≤ 2000 ∧ 4 ≤ s.size ∧ gb s (s.size - 1) = 1)) : riR s = ([], 1, false) := by unfold riR; rw [if_neg h]
theorem riR_2 {s : ByteArray} (h : s.size ≤ 2000 ∧ 4 ≤ s.size ∧ gb s (s.size - 1) = 1) {t : ByteArray} (ht : s.extract 0 (s.size - 3) = t) {p q : Nat} (hp : gb s (s.size - 3) = p) (hq : gb s (s.size - 2) = q) :
    riR s = if sumF t.data.toList = (p * 256 + q : Nat) then (if (bodyR t).2 = true then (if goodI (bodyR t).1 = true then ((bodyR t).1, 0, true) else ([], 4, false)) else ([], 3, false)) else ([], 2, false) := by
  subst ht hp hq; unfold riR; rw [if_pos h]
theorem rdL_step {s : ByteArray} {k : Nat} {x : Int} {l : List Code} {c : Code} {y : Int} {b : Bool} (h : rcR s x = (c, y, b)) : rdL s (k + 1) x l = if b = true then rdL s k y (l ++ [c]) else ([], 0, false) := by
  rw [rdL, h]
end Go.Proofs.YtgoinmdnpaknpaaGreat

/- An image read back from its bytes: the program's walk of the body. -/
set_option linter.unusedVariables false
set_option linter.unusedSimpArgs false
set_option maxRecDepth 100000
namespace Go.Proofs.YtgoinmdnpaknpaaGreat
open Go.RowKit
attribute [local irreducible] wpList
theorem rcR_ok {s : ByteArray} {x : Int} (h : (rcR s x).2.2 = true) : cbB (rcR s x).1 = true ∧ 0 ≤ (rcR s x).2.1 ∧ (rcR s x).2.1 ≤ 2000 := by
  by_cases h1 : ∃ ce : Code × Nat, isAt s x ce.1 ce.2
  · unfold rcR; rw [dif_pos h1]
    obtain ⟨h2, t, h3, h4, h5, h6⟩ := Classical.choose_spec h1
    have := h5.len
    exact ⟨h2, by simp only; omega, by simp only; omega⟩
  · unfold rcR at h; rw [dif_neg h1] at h; simp at h
theorem Tryz.infoCodeM : (Tryz.prog.info? 39).map (fun i => (i.zero, i.size, i.bytes)) = some (some (.agg #[.int .i64 0, .int .i64 0, .slice none 0 0, .slice none 0 0, .slice none 0 0]), 5, 88) := by kernel_rfl
theorem code_oneM {x0 x1 : Int} {A2 A3 A4 : Option Addr} {n2 c2 n3 c3 n4 c4 : Nat} : ∀ u ∈ ([.int .i64 x0, .int .i64 x1, .slice A2 n2 c2, .slice A3 n3 c3, .slice A4 n4 c4] : List Value), u.oneCell' = true := by
  intro u hu; simp at hu; rcases hu with rfl | rfl | rfl | rfl | rfl <;> rfl
theorem u64_up {k : Nat} (h : k ≤ 5) : IntKind.u64.wrap ((k : Int) + 1) = (k : Int) + 1 := by rw [IntWalk.u64_in _ (by omega)]
/-- The call returns codes in memory of its own; they are the text's where it says so. -/
def RetRb (s : List Code) (b : Bool) (w : World) (e : Ending) (w' : World) : Prop :=
  ∃ l A0 n0 c0 F0, e = .returned (.tuple #[.agg #[.slice A0 n0 c0], .bool b]) ∧ OwnSl CodeR w' 39 F0 (.slice A0 n0 c0) l ∧ F0.Nodup ∧ (∀ k, k ∈ F0 → w.heap.size ≤ k) ∧ (b = true → l = s) ∧ Below w.heap.size w w'
/-- A text's codes so far. -/
structure CdSo (s : ByteArray) (cnt : Nat) (w : World) (X : Nat) (wr : World) (k : Nat) (x : Int) (l : List Code) (v : Value) (F : List Nat) : Prop where
  own : OwnSl CodeR wr 39 F v l
  len : l.length = k
  new : ∀ j, j ∈ F → X < j
  cell : wr.cell? ⟨X, 0, none⟩ = some v
  fz : wr.frozen? ⟨X, 0, none⟩ = false
  bl : Below w.heap.size w wr
  eq : rdL s (cnt - k) x l = rdL s cnt 1 []
  old : w.heap.size ≤ X
theorem CdSo.below {s : ByteArray} {cnt : Nat} {w : World} {X : Nat} {wr w' : World} {k : Nat} {x : Int} {l : List Code} {v : Value} {F : List Nat} (h : CdSo s cnt w X wr k x l v F) (hb : Below wr.heap.size wr w') : CdSo s cnt w X w' k x l v F :=
  ⟨h.own.below hb, h.len, h.new, below_cell hb h.cell, (hb.frozen (World.block_lt_of_cell? wr _ h.cell)).trans h.fz, below_then h.bl hb, h.eq, h.old⟩
/-- A code more. -/
theorem CdSo.step {s : ByteArray} {cnt : Nat} {w : World} {X : Nat} {wr w' : World} {k : Nat} {x y : Int} {l : List Code} {c : Code} {v v' : Value} {F F' Fc : List Nat} (h : CdSo s cnt w X wr k x l v F) (hk : k < cnt) (hr : rcR s x = (c, y, true)) (ho : OwnSl CodeR w' 39 F' v' (l ++ [c])) (hg : wr.grownBy w' v.ownBlock) (hF : ∀ j, j ∈ F' → j ∈ F ∨ j ∈ Fc ∨ j = wr.heap.size) (hc : ∀ j, j ∈ Fc → X < j) :
    CdSo s cnt w X (w'.setCell ⟨X, 0, none⟩ v') (k + 1) y (l ++ [c]) v' F' := by
  have hX : X < wr.heap.size := World.block_lt_of_cell? wr _ h.cell
  have hvB : ∀ g, v.ownBlock = some g → X < g := fun g hg => h.new g (h.own.ownB g hg)
  have hk6 : ∀ b, b ≤ X → w'.heap[b]? = wr.heap[b]? := fun b hb => hg.block b (by omega) (fun e => by have := hvB b e.symm; omega)
  have hn : ∀ j, j ∈ F' → X < j := fun j hj => by
    rcases hF j hj with h1 | h1 | h1
    · exact h.new j h1
    · exact hc j h1
    · omega
  have hf : Fr [X] w' (w'.setCell ⟨X, 0, none⟩ v') := Fr.setCell (p := ⟨X, 0, none⟩) (Fr.refl _ _) (List.mem_singleton.2 rfl) _
  have hc6 : w'.cell? ⟨X, 0, none⟩ = some v := (World.cell?_of_block (w := wr) (a := ⟨X, 0, none⟩) (hk6 _ (Nat.le_refl _))).trans h.cell
  have hz6 : w'.frozen? ⟨X, 0, none⟩ = false := (World.frozen?_of_block (w := wr) (a := ⟨X, 0, none⟩) (hk6 _ (Nat.le_refl _))).trans h.fz
  have hb6 : Below w.heap.size w w' := ⟨hg.os.trans h.bl.os, hg.tape.trans h.bl.tape, hg.output.trans h.bl.output, by have := hg.size; have := h.bl.size; omega, fun b hb => (hk6 b (by have := h.old; omega)).trans (h.bl.block b hb)⟩
  refine ⟨ho.fr hf (fun j hj h2 => by have := hn j hj; rw [List.mem_singleton.1 h2] at this; omega), by rw [List.length_append, List.length_singleton, h.len], hn, by simp [go_sem, hc6], by simp [go_sem, hz6], below_fr hb6 hf (fun j hj => by rw [List.mem_singleton.1 hj]; exact h.old), ?_, h.old⟩
  have h9 := h.eq
  rw [show cnt - k = (cnt - (k + 1)) + 1 by omega, rdL_step hr, if_pos rfl] at h9
  exact h9
set_option maxHeartbeats 8000000 in
theorem implReadBody (w : World) (s : ByteArray) (hs : s.size ≤ 2000) :
    Calls Tryz.prog 14 #[.string s] w (RetRb (bodyR s).1 (bodyR s).2 w) := by
  have hsm : s.size ≤ maxLen := by unfold maxLen; omega
  obtain ⟨inf, hif, hz0, hz1, hz2⟩ := info_parts Tryz.infoCodeM
  have HIF := Lib.hid hif
  have HZ0 := Lib.hid hz0
  have HZ1 := Lib.hid hz1
  have HZ2 := Lib.hid hz2
  clear hif hz0 hz1 hz2
  go_enter Tryz.func14, Tryz.ntmps14
  go_wp2_with fail
  refine (implReadU s 0 _ hsm (by unfold I64; omega)).mono ?_
  rintro e w5 ⟨cnt, en, code, ok, rfl, hn, HA, HT, HO, b5⟩
  obtain ⟨hcE, hfE⟩ := bcell b5
  have r0 : w5.cell? ⟨w.heap.size, 0, none⟩ = some (.slice none 0 0) := by simp [hcE, go_sem]
  have rf : w5.frozen? ⟨w.heap.size, 0, none⟩ = false := by simp [hfE, go_sem]
  have t5 : Below w.heap.size w w5 := by exact belA
  have zR : w.heap.size < w5.heap.size := World.block_lt_of_cell? w5 _ r0
  clear hcE hfE b5
  have HNO := Lib.hid (show (ok = true → ¬ (1 ≤ cnt ∧ cnt ≤ 5)) → bodyR s = ([], false) from fun h => bodyR_no (fun h2 => by
    obtain ⟨g1, g2, g3⟩ := HT.out 0 (gb s 0) rfl hs (by omega) (stt_cnt h2.1 h2.2.2)
    exact h g1 (by omega)))
  cases ok
  · have hno := Lib.hid (HNO.out (by simp))
    go_wp2_with fail
    refine bodyPost_ret (v := .tuple #[.agg #[.slice none 0 0], .bool false]) (by simp [results, Tryz.results14, go_sem, r0]) rfl ?_
    rw [hno.out]
    exact ⟨[], none, 0, 0, [], rfl, OwnSl.nil_ _ _ _, by simp, by simp, by simp, by exact belA⟩
  by_cases hc1 : (cnt : Int) < 1
  · have hno := Lib.hid (HNO.out (by omega))
    go_wp2_with fail
    refine bodyPost_ret (v := .tuple #[.agg #[.slice none 0 0], .bool false]) (by simp [results, Tryz.results14, go_sem, r0]) rfl ?_
    rw [hno.out]
    exact ⟨[], none, 0, 0, [], rfl, OwnSl.nil_ _ _ _, by simp, by simp, by simp, by exact belA⟩
  by_cases hc2 : (cnt : Int) > 5
  · have hno := Lib.hid (HNO.out (by omega))
    go_wp2_with fail
    refine bodyPost_ret (v := .tuple #[.agg #[.slice none 0 0], .bool false]) (by simp [results, Tryz.results14, go_sem, r0]) rfl ?_
    rw [hno.out]
    exact ⟨[], none, 0, 0, [], rfl, OwnSl.nil_ _ _ _, by simp, by simp, by simp, by exact belA⟩
  obtain ⟨q1, q2, rfl⟩ := cnt_of (HA.out rfl).2.2.2.2 (by omega)
  obtain ⟨bR, hbR⟩ : ∃ r, bodyR s = r := ⟨_, rfl⟩
  have HB := Lib.hid (show (if (rdL s cnt 1 []).2.2 = true ∧ (rdL s cnt 1 []).2.1 = (s.size : Int) then ((rdL s cnt 1 []).1, true) else ([], false)) = bR from by rw [← hbR]; exact (bodyR_yes ⟨q1, by omega, by omega⟩ (by omega)).symm)
  have HBR := Lib.hid hbR
  have hcn : cnt ≤ 5 := by omega
  clear hbR HNO HA HT HO q2 hn
  go_wp2_with fail
  go_loopw [5, 31] (fun av iv wr => ∃ (k : Nat) (x : Int) (l : List Code) (v : Value) (F : List Nat), k ≤ cnt ∧ iv = .int .u64 k ∧ av = .int .i64 x ∧ I64 x ∧ Hid (CdSo s cnt w5 w5.heap.size wr k x l v F)) (fun _ iv _ => cnt - (intOf iv).toNat)
  case atStart => exact ⟨0, 1, [], .slice none 0 0, [], Nat.zero_le _, rfl, rfl, by unfold I64; omega, Lib.hid ⟨OwnSl.nil_ _ _ _, rfl, by simp, by simp [go_sem], by simp [go_sem], by exact belA, rfl, Nat.le_refl _⟩⟩
  case round =>
    obtain ⟨k, x, l, v, F, hk, rfl, rfl, hx, HC⟩ := hrel
    have kx := HC.out.cell
    have kf := HC.out.fz
    have rr := below_cell HC.out.bl r0
    have rrf := (HC.out.bl.frozen (p := ⟨w.heap.size, 0, none⟩) zR).trans rf
    have zr : w5.heap.size < wr.heap.size := World.block_lt_of_cell? wr _ kx
    have hbw := Lib.hid (t5.trans (HC.out.bl.mono t5.size))
    by_cases hlt : k < cnt
    · have hki : (k : Int) < (cnt : Int) := by omega
      have hku := u64_up (k := k) (by omega)
      have hrc := implReadCode wr s x hsm hx
      obtain ⟨⟨⟨y0, y1, y2, y3, y4⟩, y, ok⟩, hz⟩ : ∃ z, rcR s x = z := ⟨_, rfl⟩
      have HRC := Lib.hid hrc
      have HZ := Lib.hid hz
      have HOK := Lib.hid (show ok = true → cbB (y0, y1, y2, y3, y4) = true ∧ 0 ≤ y ∧ y ≤ 2000 from fun h => by have := rcR_ok (s := s) (x := x) (by rw [hz]; exact h); rw [hz] at this; exact this)
      clear hrc hz
      go_wp2_with fail
      refine HRC.out.mono ?_
      rintro e w6 h6
      obtain ⟨A2, n2, c2, A3, n3, c3, A4, n4, c4, F2, F3, F4, rfl, o2, o3, o4, nd, hF, b6⟩ := h6.toO HZ.out
      clear h6 kx kf rr rrf
      have HC6 := Lib.hid (HC.out.below b6)
      have kx := HC6.out.cell
      have kf := HC6.out.fz
      have rr := below_cell HC6.out.bl r0
      have rrf := (HC6.out.bl.frozen (p := ⟨w.heap.size, 0, none⟩) zR).trans rf
      have zr6 : w5.heap.size < w6.heap.size := World.block_lt_of_cell? w6 _ kx
      have zR6 : w.heap.size < w6.heap.size := by omega
      cases ok
      · have hno := Lib.hid (show bR = ([], false) from by
          have h9 := HC.out.eq
          rw [show cnt - k = (cnt - (k + 1)) + 1 by omega, rdL_step HZ.out, if_neg (by simp)] at h9
          rw [← HB.out, ← h9]; simp)
        clear o2 o3 o4 nd hF
        go_wp2_with fail
        refine bodyPost_ret (v := .tuple #[.agg #[.slice none 0 0], .bool false]) (by simp [results, Tryz.results14, go_sem, rr, zR6]) rfl ?_
        rw [HBR.out, hno.out]
        have t6 : Below w.heap.size w w6 := t5.trans (HC6.out.bl.mono t5.size)
        exact ⟨[], none, 0, 0, [], rfl, OwnSl.nil_ _ _ _, by simp, by simp, by simp, by exact belA⟩
      obtain ⟨p0, p1, p2⟩ := HOK.out rfl
      obtain ⟨i0, i1, _⟩ := cbB_parts p0
      have hC := Code_own o2 o3 o4 (show I64 y0 by unfold I64; omega) (show I64 y1 by unfold I64; omega) nd
      obtain ⟨Fc, hFc⟩ : ∃ Fc, Fc = F2 ++ (F3 ++ F4) := ⟨_, rfl⟩
      rw [← hFc] at hC hF
      have zb6 := b6.size
      have hdj : ∀ j, j ∈ Fc → j ∉ F := fun j hj hf => by have := hF j hj; have := HC.out.own.lt j hf; omega
      have l6 : ∀ j, j ∈ Fc → j < w6.heap.size := CodeR.ownLt hC
      have hlen := Lib.hid HC6.out.len
      have hl5 : l.length ≤ 5 := by have := hlen.out; omega
      clear hFc nd o2 o3 o4 p0 i0 i1
      go_wp2_with (at_builtin; refine wpl_own1 _ rfl _ _ 22 rfl CodeR 39 inf (.agg #[.int .i64 0, .int .i64 0, .slice none 0 0, .slice none 0 0, .slice none 0 0]) 5 88 Tryz.underlying22 HIF.out HZ0.out HZ1.out HZ2.out rfl rfl (by decide) v l.length l F rfl rfl (HC6.out.own.below (show Below w6.heap.size w6 _ by exact belA)) ⟨w6.heap.size + 1, 0, none⟩ 1 [.int .i64 y0, .int .i64 y1, .slice A2 n2 c2, .slice A3 n3 c3, .slice A4 n4 c4] (y0, y1, y2, y3, y4) Fc rfl (cells_new _ _ _ (by simp)) (CodeR.ownKeep (fun k hk => (show Below w6.heap.size w6 _ by exact belA).block k (l6 k hk)) hC) code_oneM hdj (by omega) (by decide) ?_)
      intro v' w7 F' ho7 hg7 hF7
      obtain ⟨A7, n7, c7, hv7, hn7⟩ := ho7.form
      clear hn7
      subst hv7
      have hm : Below w6.heap.size w6 ((w6.alloc (.cells #[.int .i64 y0, .int .i64 y1, .slice A2 n2 c2, .slice A3 n3 c3, .slice A4 n4 c4] 39)).alloc (.cells #[.int .i64 y0, .int .i64 y1, .slice A2 n2 c2, .slice A3 n3 c3, .slice A4 n4 c4] 39)) := by exact belA
      have HCN := Lib.hid ((HC6.out.below hm).step hlt HZ.out ho7 hg7 (fun j hj => by
        rcases hF7 j hj with h | h | h
        · exact Or.inl h
        · exact Or.inr (Or.inl h)
        · exact Or.inr (Or.inr (by simp; omega))) (fun j hj => by have := hF j hj; omega))
      have hk7 : ∀ b, b ≤ w5.heap.size → w7.heap[b]? = w6.heap[b]? := fun b hb => (hg7.block b (by have := hm.size; omega) (fun e => by have := HC6.out.new b (HC6.out.own.ownB b e.symm); omega)).trans (hm.block b (by omega))
      have kx7 : w7.cell? ⟨w5.heap.size, 0, none⟩ = some v := (World.cell?_of_block (w := w6) (a := ⟨w5.heap.size, 0, none⟩) (hk7 _ (Nat.le_refl _))).trans kx
      have kf7 : w7.frozen? ⟨w5.heap.size, 0, none⟩ = false := (World.frozen?_of_block (w := w6) (a := ⟨w5.heap.size, 0, none⟩) (hk7 _ (Nat.le_refl _))).trans kf
      have hy : I64 y := by unfold I64; omega
      clear hm hk7 hg7 ho7 hF7 kx kf rr rrf hC hdj l6 hF b6
      go_wp2_with fail
      go_roundw
      case rel => exact ⟨k + 1, y, l ++ [(y0, y1, y2, y3, y4)], .slice A7 n7 c7, F', by omega, by go_num, rfl, hy, HCN⟩
      case measure => simp [intOf]; omega
    · have hkn : k = cnt := by omega
      obtain ⟨A0, n0, c0, rfl, hn0⟩ := HC.out.own.form
      have heq := HC.out.eq
      rw [show cnt - k = 0 by omega] at heq
      have HEQ := Lib.hid (show (if x = (s.size : Int) then (l, true) else ([], false)) = bR from by
        rw [← HB.out, ← heq]; simp [rdL])
      clear hn0 heq hkn
      have hki : ¬ (k : Int) < (cnt : Int) := by omega
      obtain ⟨d, hd⟩ : ∃ d, decide (x = (s.size : Int)) = d := ⟨_, rfl⟩
      have HD := Lib.hid hd
      have hxs : (x == (s.size : Int)) = d := by rw [← hd]; rfl
      clear hd hlt
      go_wp2_with fail
      refine bodyPost_ret (v := .tuple #[.agg #[.slice A0 n0 c0], .bool d]) (by simp [results, Tryz.results14, go_sem, rr, hxs]) rfl ?_
      have hnd := HC.out.own.nodup
      have hb2 : d = bR.2 ∧ (d = true → l = bR.1) := by
        rw [← HEQ.out]
        cases d
        · have := of_decide_eq_false HD.out; rw [if_neg this]; exact ⟨rfl, by simp⟩
        · have := of_decide_eq_true HD.out; rw [if_pos this]; exact ⟨rfl, fun _ => rfl⟩
      rw [HBR.out, ← hb2.1]
      exact ⟨l, A0, n0, c0, F, rfl, HC.out.own.fr (show Fr [w.heap.size] wr _ by exact frcA) (fun j hj h2 => by have := HC.out.new j hj; rw [List.mem_singleton.1 h2] at this; omega), hnd, fun j hj => by have := HC.out.new j hj; omega, hb2.2, by have := hbw.out; exact belA⟩
end Go.Proofs.YtgoinmdnpaknpaaGreat

/- An image read back from its bytes: the program's top. -/
set_option linter.unusedVariables false
set_option linter.unusedSimpArgs false
set_option maxRecDepth 100000
namespace Go.Proofs.YtgoinmdnpaknpaaGreat
open Go.RowKit
attribute [local irreducible] wpList
/-- The call returns an image in memory of its own, a code of what is wrong, and whether nothing is. -/
def RetRiO (x : List Code) (i : Int) (b : Bool) (w : World) (e : Ending) (w' : World) : Prop :=
  ∃ A0 n0 c0 F0, e = .returned (.tuple #[.agg #[.slice A0 n0 c0], .int .i64 i, .bool b]) ∧ OwnSl CodeR w' 39 F0 (.slice A0 n0 c0) x ∧ F0.Nodup ∧ (∀ k, k ∈ F0 → w.heap.size ≤ k) ∧ Below w.heap.size w w'
/-- The same, as a reading alone. -/
def RetRiS (x : List Code) (i : Int) (b : Bool) (w : World) (e : Ending) (w' : World) : Prop :=
  ∃ A0 n0 c0, e = .returned (.tuple #[.agg #[.slice A0 n0 c0], .int .i64 i, .bool b]) ∧ Sl CodeR w' 0 w'.heap.size A0 n0 c0 x ∧ Below w.heap.size w w'
theorem RetRiO.toS {x : List Code} {i : Int} {b : Bool} {w : World} {e : Ending} {w' : World} (h : RetRiO x i b w e w') : RetRiS x i b w e w' := by
  obtain ⟨A0, n0, c0, F0, rfl, ho, _, _, hb⟩ := h
  exact ⟨A0, n0, c0, rfl, ho.sl, hb⟩
theorem RetRiO.no {s : ByteArray} {x : List Code} {i i' : Int} {b : Bool} {w w' : World} (hz : riR s = (x, i, b)) (h : riR s = ([], i', false)) (hb : Below w.heap.size w w') : RetRiO x i b w (.returned (.tuple #[.agg #[.slice none 0 0], .int .i64 i', .bool false])) w' := by
  rw [h] at hz
  simp only [Prod.mk.injEq] at hz
  obtain ⟨rfl, rfl, rfl⟩ := hz
  exact ⟨none, 0, 0, [], rfl, OwnSl.nil_ .., by simp, by simp, hb⟩
theorem sumN2 (l : List UInt8) : ∃ m : Nat, sumF l = (m : Int) ∧ m < 65521 := by
  have h := sumF_bd l
  exact ⟨(sumF l).toNat, by omega, by omega⟩
/-- The sum's two bytes. -/
theorem or_two {a b : Nat} (ha : a < 256) (hb : b < 256) : bits .or .i64 ((a : Int) * 256) (b : Int) = ((a * 256 + b : Nat) : Int) := by
  have e : ((a : Int) * 256) = ((a * 256 : Nat) : Int) := by omega
  have h1 : (BitVec.ofInt 64 ((a * 256 : Nat) : Int)).toNat = a * 256 := by
    rw [BitVec.ofInt_natCast, BitVec.toNat_ofNat]; exact Nat.mod_eq_of_lt (by omega)
  have h2 : (BitVec.ofInt 64 (b : Int)).toNat = b := by
    rw [BitVec.ofInt_natCast, BitVec.toNat_ofNat]; exact Nat.mod_eq_of_lt (by omega)
  rw [e]
  show IntKind.i64.wrap ((BitVec.ofInt 64 ((a * 256 : Nat) : Int) ||| BitVec.ofInt 64 (b : Int)).toNat : Int) = _
  have h3 : a * 256 ||| b = a * 256 + b := by
    rw [Nat.mul_comm a 256]
    exact (Nat.two_pow_add_eq_or_of_lt (i := 8) (b := b) (by omega) a).symm
  rw [BitVec.toNat_or, h1, h2, h3, IntWalk.i64_in _ (by omega)]
set_option maxHeartbeats 8000000 in
theorem implReadImageO (w : World) (s : ByteArray) (hs : s.size ≤ maxLen) (x : List Code) (i : Int) (b : Bool) (hz : riR s = (x, i, b)) :
    Calls Tryz.prog 5 #[.string s] w (RetRiO x i b w) := by
  have HZ := Lib.hid hz
  unfold maxLen at hs
  clear hz
  have HN1 := Lib.hid (show ¬ (s.size ≤ 2000 ∧ 4 ≤ s.size ∧ gb s (s.size - 1) = 1) → riR s = ([], 1, false) from fun h => riR_1 h)
  by_cases h1 : (s.size : Int) > 2000
  · go_enter Tryz.func5, Tryz.ntmps5
    go_wp2_with fail
    refine bodyPost_ret (v := .tuple #[.agg #[.slice none 0 0], .int .i64 1, .bool false]) (by simp [results, Tryz.results5, go_sem]) rfl ?_
    exact RetRiO.no HZ.out (HN1.out (by omega)) (by exact belA)
  by_cases h2 : (s.size : Int) < 4
  · go_enter Tryz.func5, Tryz.ntmps5
    go_wp2_with fail
    refine bodyPost_ret (v := .tuple #[.agg #[.slice none 0 0], .int .i64 1, .bool false]) (by simp [results, Tryz.results5, go_sem]) rfl ?_
    exact RetRiO.no HZ.out (HN1.out (by omega)) (by exact belA)
  obtain ⟨m, hm⟩ : ∃ m, s.size = m + 3 := ⟨s.size - 3, by omega⟩
  have hi1 : (s.size : Int) - 1 = (m : Int) + 2 := by omega
  have hi2 : (s.size : Int) - 2 = (m : Int) + 1 := by omega
  have hi3 : (s.size : Int) - 3 = (m : Int) := by omega
  have hb1 : (m : Int) + 2 < (s.size : Int) := by omega
  have hb2 : (m : Int) + 1 < (s.size : Int) := by omega
  have hb3 : (m : Int) < (s.size : Int) := by omega
  have hb4 : (0 : Int) ≤ (m : Int) + 1 := by omega
  have hb5 : (0 : Int) ≤ (m : Int) + 2 := by omega
  have z1 : m + 2 < s.size := by omega
  have z2 : m + 1 < s.size := by omega
  have z3 : m < s.size := by omega
  have g1 := gb_at z1
  have g2 := gb_at z2
  have g3 := gb_at z3
  obtain ⟨q1, hq1⟩ : ∃ q, (s[m + 2]'z1).toNat = q := ⟨_, rfl⟩
  obtain ⟨q2, hq2⟩ : ∃ q, (s[m + 1]'z2).toNat = q := ⟨_, rfl⟩
  obtain ⟨q3, hq3⟩ : ∃ q, (s[m]'z3).toNat = q := ⟨_, rfl⟩
  rw [hq1] at g1
  rw [hq2] at g2
  rw [hq3] at g3
  have l2 := gb_lt s (m + 1)
  have l3 := gb_lt s m
  rw [g2] at l2
  rw [g3] at l3
  have hmz : m ≤ 1997 := by omega
  have HM := Lib.hid hm
  have G1 := Lib.hid g1
  have G2 := Lib.hid g2
  have G3 := Lib.hid g3
  clear hm g1 g2 g3
  by_cases h3 : q1 = 1
  rotate_left
  · have hne : ((q1 : Int) != 1) = true := bne_iff_ne.2 (by omega)
    have hno := Lib.hid (HN1.out (fun h => by have := h.2.2; rw [HM.out, show m + 3 - 1 = m + 2 by omega, G1.out] at this; exact h3 this))
    clear h3
    go_enter Tryz.func5, Tryz.ntmps5
    go_wp2_with fail
    refine bodyPost_ret (v := .tuple #[.agg #[.slice none 0 0], .int .i64 1, .bool false]) (by simp [results, Tryz.results5, go_sem]) rfl ?_
    exact RetRiO.no HZ.out hno.out (by exact belA)
  have hne : ((q1 : Int) != 1) = false := by rw [h3]; rfl
  obtain ⟨t, ht⟩ : ∃ t, s.extract 0 m = t := ⟨_, rfl⟩
  have hslc : ∀ V, (Instr.slice 9 (.string s) none (some (.int .i64 (m : Int))) none).run Tryz.prog V = .ok (.string t) V := fun V => by
    rw [run_slice_string_h V 9 s Tryz.underlying9 .i64 (m : Int) (by omega) (by omega), ← ht, Int.toNat_natCast]
  have hix3 : ∀ V, (Instr.index 9 (.string s) (.int .i64 (m : Int))).run Tryz.prog V = .ok (.int .u8 (q3 : Int)) V := fun V => by
    rw [run_index_string V 9 s .i64 (m : Int) Tryz.underlying9, dif_pos (by omega)]
    simp only [Int.toNat_natCast, hq3]
  have hix2 : ∀ V, (Instr.index 9 (.string s) (.int .i64 ((m : Int) + 1))).run Tryz.prog V = .ok (.int .u8 (q2 : Int)) V := fun V => by
    rw [run_index_string V 9 s .i64 ((m : Int) + 1) Tryz.underlying9, dif_pos (by omega)]
    simp only [show ((m : Int) + 1).toNat = m + 1 by omega, hq2]
  have htz : t.size ≤ 2000 := by rw [← ht, ByteArray.size_extract]; omega
  have HRI := Lib.hid (riR_2 (s := s) ⟨by omega, by omega, by rw [HM.out, show m + 3 - 1 = m + 2 by omega, G1.out]; exact h3⟩ (t := t) (by rw [HM.out]; exact ht) (p := q3) (q := q2) (by rw [HM.out]; exact G3.out) (by rw [HM.out, show m + 3 - 2 = m + 1 by omega]; exact G2.out))
  obtain ⟨sm, hsm, hsl⟩ := sumN2 t.data.toList
  have HSM := Lib.hid hsm
  have hor := or_two l3 l2
  have hw0 : IntKind.i64.wrap (m : Int) = (m : Int) := IntWalk.i64_in _ (by omega)
  have hw1 : IntKind.i64.wrap ((m : Int) + 1) = (m : Int) + 1 := IntWalk.i64_in _ (by omega)
  have hw2 : IntKind.i64.wrap (q2 : Int) = (q2 : Int) := IntWalk.i64_in _ (by omega)
  have hw3 : IntKind.i64.wrap (q3 : Int) = (q3 : Int) := IntWalk.i64_in _ (by omega)
  have hw4 : IntKind.i64.wrap ((q3 : Int) * 256) = (q3 : Int) * 256 := IntWalk.i64_in _ (by omega)
  clear h3 ht hsm
  go_enter Tryz.func5, Tryz.ntmps5
  go_upto_region 5 with fail
  refine wp_region_noPanic ?_
  refine wp_region_hd (S := (fun V' => True)) 15 (by kernel_rfl) (by kernel_rfl) trivial (fun hR0 => ?_)
  refine takeH 0 ?_
  refine takeH 2 ?_
  refine takeH 3 ?_
  refine takeH 4 ?_
  refine takeH 5 ?_
  refine takeH 6 ?_
  refine takeH 7 ?_
  refine takeH 8 ?_
  refine takeH 9 ?_
  refine takeH 10 ?_
  refine takeH 11 ?_
  refine takeH 12 ?_
  refine takeH 13 ?_
  refine wpAnyH_ready (rs := [1]) (by kernel_rfl) (by simp) ?_
  refine AllReadyH.cons (i := 1) rfl (fun K hK => ?_) AllReadyH.nil
  go_simp
  go_at_call 13
  ((with_reducible refine (implsumOf t _ (by unfold maxLen; omega)).mono ?_))
  rintro e w5 ⟨rfl, hw5⟩
  have t5 : Below w.heap.size w w5 := by rw [← hw5]; exact beloA
  have r0 : w5.cell? ⟨w.heap.size, 0, none⟩ = some (.slice none 0 0) := by rw [← hw5]; simp [go_sem]
  have rf : w5.frozen? ⟨w.heap.size, 0, none⟩ = false := by rw [← hw5]; simp [go_sem]
  have zR : w.heap.size < w5.heap.size := World.block_lt_of_cell? w5 _ r0
  clear hw5
  rw [HSM.out]
  go_wp2_with fail
  refine hK.out _ _ trivial (fun hR1 => ?_)
  clear hK K
  try simp only [Act.put, List.getElem_toArray, List.getElem_cons_zero, List.getElem_cons_succ, List.setIfInBounds_toArray, List.set_cons_zero, List.set_cons_succ]
  refine takeH 14 ?_
  refine wpAnyH_done (by kernel_rfl) ?_ _
  refine NoPanic.normal ?_
  clear hR0 hR1
  by_cases h5 : sm = q3 * 256 + q2
  rotate_left
  · have hne2 : ((sm : Int) != (q3 : Int) * 256 + (q2 : Int)) = true := bne_iff_ne.2 (by omega)
    have hno := Lib.hid (show riR s = ([], 2, false) from by rw [HRI.out, if_neg (fun h => h5 (by rw [HSM.out] at h; omega))])
    clear h5
    go_wp2_with fail
    refine bodyPost_ret (v := .tuple #[.agg #[.slice none 0 0], .int .i64 2, .bool false]) (by simp [results, Tryz.results5, go_sem, r0]) rfl ?_
    exact RetRiO.no HZ.out hno.out (by exact belA)
  have hne2 : ((sm : Int) != (q3 : Int) * 256 + (q2 : Int)) = false := by rw [h5]; simp
  have HR2 := Lib.hid (show riR s = (if (bodyR t).2 = true then (if goodI (bodyR t).1 = true then ((bodyR t).1, 0, true) else ([], 4, false)) else ([], 3, false)) from by rw [HRI.out, if_pos (by rw [HSM.out]; omega)])
  clear h5
  go_wp2_with fail
  refine (implReadBody w5 t htz).mono ?_
  rintro e w6 ⟨l, A6, n6, c6, F6, rfl, ho, hnd, hF, hlb, b6⟩
  obtain ⟨bo, hbo⟩ : ∃ bo, (bodyR t).2 = bo := ⟨_, rfl⟩
  rw [hbo] at hlb ⊢
  have HBO := Lib.hid hbo
  have HLB := Lib.hid hlb
  have HO := Lib.hid ho
  have t6 : Below w.heap.size w w6 := t5.trans (b6.mono t5.size)
  have r06 := below_cell b6 r0
  have rf6 := (b6.frozen (p := ⟨w.heap.size, 0, none⟩) zR).trans rf
  have zR6 : w.heap.size < w6.heap.size := by have := b6.size; omega
  have HF := Lib.hid (show ∀ k, k ∈ F6 → w.heap.size < k ∧ k < w6.heap.size from fun k hk => by have := hF k hk; have := ho.lt k hk; omega)
  clear hbo hlb ho hF r0 rf zR
  cases bo
  · have hno := Lib.hid (show riR s = ([], 3, false) from by rw [HR2.out, if_neg (by rw [HBO.out]; simp)])
    go_wp2_with fail
    refine bodyPost_ret (v := .tuple #[.agg #[.slice none 0 0], .int .i64 3, .bool false]) (by simp [results, Tryz.results5, go_sem, r06, zR6]) rfl ?_
    exact RetRiO.no HZ.out hno.out (by exact belA)
  have hl := HLB.out rfl
  have HR3 := Lib.hid (show riR s = (if goodI l = true then (l, 0, true) else ([], 4, false)) from by rw [HR2.out, if_pos HBO.out, hl])
  clear hl
  go_wp2_with fail
  refine (implIsImage _ 0 w6.heap.size A6 n6 c6 l (HO.out.sl.below (show Below w6.heap.size w6 _ by exact belA) (Nat.le_refl _)) (by first | omega | (simp; done) | (simp; omega))).mono ?_
  rintro e w7 ⟨rfl, b7⟩
  have t67 : Below w6.heap.size w6 w7 := by exact belA
  obtain ⟨hcE, hfE⟩ := bcell b7
  have x7 : w7.cell? ⟨w6.heap.size, 0, none⟩ = some (.slice A6 n6 c6) := by simp [hcE, go_sem]
  clear hcE hfE b7
  have t7 : Below w.heap.size w w7 := t6.trans (t67.mono t6.size)
  have r07 := below_cell t67 r06
  have rf7 := (t67.frozen (p := ⟨w.heap.size, 0, none⟩) zR6).trans rf6
  have zR7 : w.heap.size < w7.heap.size := by have := t67.size; omega
  obtain ⟨g, hg⟩ : ∃ g, goodI l = g := ⟨_, rfl⟩
  rw [hg]
  have HG := Lib.hid hg
  clear hg r06 rf6
  cases g
  · have hno := Lib.hid (show riR s = ([], 4, false) from by rw [HR3.out, if_neg (by rw [HG.out]; simp)])
    go_wp2_with fail
    refine bodyPost_ret (v := .tuple #[.agg #[.slice none 0 0], .int .i64 4, .bool false]) (by simp [results, Tryz.results5, go_sem, r07]) rfl ?_
    exact RetRiO.no HZ.out hno.out (by exact belA)
  · have hyes := Lib.hid (show (l, 0, true) = (x, i, b) from by rw [← HZ.out, HR3.out, if_pos HG.out])
    go_wp2_with fail
    refine bodyPost_ret (v := .tuple #[.agg #[.slice A6 n6 c6], .int .i64 0, .bool true]) (by simp [results, Tryz.results5, go_sem, r07]) rfl ?_
    have hy := hyes.out
    simp only [Prod.mk.injEq] at hy
    obtain ⟨rfl, rfl, rfl⟩ := hy
    have hf : Fr [w.heap.size] w7 (w7.setCell ⟨w.heap.size, 0, none⟩ (.slice A6 n6 c6)) := by exact frcA
    exact ⟨A6, n6, c6, F6, rfl, (HO.out.below t67).fr hf (fun k hk h2 => by have := HF.out k hk; rw [List.mem_singleton.1 h2] at this; omega), hnd, fun k hk => by have := HF.out k hk; omega, by exact belA⟩
end Go.Proofs.YtgoinmdnpaknpaaGreat

/- An image read back from its bytes: the reference's walk, and both contracts as the law takes them. -/
set_option linter.unusedVariables false
set_option linter.unusedSimpArgs false
set_option maxRecDepth 100000
namespace Go.Proofs.YtgoinmdnpaknpaaGreat
open Go.RowKit
attribute [local irreducible] wpList
/-- The reading where nothing is right. -/
theorem RetRiS.no {s : ByteArray} {x : List Code} {i i' : Int} {b : Bool} {w w' : World} (hz : riR s = (x, i, b)) (h : riR s = ([], i', false)) (hb : Below w.heap.size w w') : RetRiS x i b w (.returned (.tuple #[.agg #[.slice none 0 0], .int .i64 i', .bool false])) w' := (RetRiO.no hz h hb).toS
set_option maxHeartbeats 8000000 in
theorem specReadImageO (w : World) (s : ByteArray) (hs : s.size ≤ maxLen) (x : List Code) (i : Int) (b : Bool) (hz : riR s = (x, i, b)) :
    Calls Tryz.prog 4 #[.string s] w (RetRiS x i b w) := by
  have HZ := Lib.hid hz
  unfold maxLen at hs
  clear hz
  have HN1 := Lib.hid (show ¬ (s.size ≤ 2000 ∧ 4 ≤ s.size ∧ gb s (s.size - 1) = 1) → riR s = ([], 1, false) from fun h => riR_1 h)
  by_cases h1 : (s.size : Int) > 2000
  · go_enter Tryz.func4, Tryz.ntmps4
    go_wp2_with fail
    refine bodyPost_ret (v := .tuple #[.agg #[.slice none 0 0], .int .i64 1, .bool false]) (by simp [results, Tryz.results4, go_sem]) rfl ?_
    exact RetRiS.no HZ.out (HN1.out (by omega)) (by exact belA)
  by_cases h2 : (s.size : Int) < 4
  · go_enter Tryz.func4, Tryz.ntmps4
    go_wp2_with fail
    refine bodyPost_ret (v := .tuple #[.agg #[.slice none 0 0], .int .i64 1, .bool false]) (by simp [results, Tryz.results4, go_sem]) rfl ?_
    exact RetRiS.no HZ.out (HN1.out (by omega)) (by exact belA)
  obtain ⟨m, hm⟩ : ∃ m, s.size = m + 3 := ⟨s.size - 3, by omega⟩
  have hi1 : (s.size : Int) - 1 = (m : Int) + 2 := by omega
  have hi2 : (s.size : Int) - 2 = (m : Int) + 1 := by omega
  have hi3 : (s.size : Int) - 3 = (m : Int) := by omega
  have hb1 : (m : Int) + 2 < (s.size : Int) := by omega
  have hb2 : (m : Int) + 1 < (s.size : Int) := by omega
  have hb3 : (m : Int) < (s.size : Int) := by omega
  have hb4 : (0 : Int) ≤ (m : Int) + 1 := by omega
  have hb5 : (0 : Int) ≤ (m : Int) + 2 := by omega
  have z1 : m + 2 < s.size := by omega
  have z2 : m + 1 < s.size := by omega
  have z3 : m < s.size := by omega
  have g1 := gb_at z1
  have g2 := gb_at z2
  have g3 := gb_at z3
  obtain ⟨q1, hq1⟩ : ∃ q, (s[m + 2]'z1).toNat = q := ⟨_, rfl⟩
  obtain ⟨q2, hq2⟩ : ∃ q, (s[m + 1]'z2).toNat = q := ⟨_, rfl⟩
  obtain ⟨q3, hq3⟩ : ∃ q, (s[m]'z3).toNat = q := ⟨_, rfl⟩
  rw [hq1] at g1
  rw [hq2] at g2
  rw [hq3] at g3
  have l2 := gb_lt s (m + 1)
  have l3 := gb_lt s m
  rw [g2] at l2
  rw [g3] at l3
  have hmz : m ≤ 1997 := by omega
  have HM := Lib.hid hm
  have G1 := Lib.hid g1
  have G2 := Lib.hid g2
  have G3 := Lib.hid g3
  clear hm g1 g2 g3
  by_cases h3 : q1 = 1
  rotate_left
  · have hne : ((q1 : Int) != 1) = true := bne_iff_ne.2 (by omega)
    have hno := Lib.hid (HN1.out (fun h => by have := h.2.2; rw [HM.out, show m + 3 - 1 = m + 2 by omega, G1.out] at this; exact h3 this))
    clear h3
    go_enter Tryz.func4, Tryz.ntmps4
    go_wp2_with fail
    refine bodyPost_ret (v := .tuple #[.agg #[.slice none 0 0], .int .i64 1, .bool false]) (by simp [results, Tryz.results4, go_sem]) rfl ?_
    exact RetRiS.no HZ.out hno.out (by exact belA)
  have hne : ((q1 : Int) != 1) = false := by rw [h3]; rfl
  obtain ⟨t, ht⟩ : ∃ t, s.extract 0 m = t := ⟨_, rfl⟩
  have hslc : ∀ V, (Instr.slice 9 (.string s) none (some (.int .i64 (m : Int))) none).run Tryz.prog V = .ok (.string t) V := fun V => by
    rw [run_slice_string_h V 9 s Tryz.underlying9 .i64 (m : Int) (by omega) (by omega), ← ht, Int.toNat_natCast]
  have hix3 : ∀ V, (Instr.index 9 (.string s) (.int .i64 (m : Int))).run Tryz.prog V = .ok (.int .u8 (q3 : Int)) V := fun V => by
    rw [run_index_string V 9 s .i64 (m : Int) Tryz.underlying9, dif_pos (by omega)]
    simp only [Int.toNat_natCast, hq3]
  have hix2 : ∀ V, (Instr.index 9 (.string s) (.int .i64 ((m : Int) + 1))).run Tryz.prog V = .ok (.int .u8 (q2 : Int)) V := fun V => by
    rw [run_index_string V 9 s .i64 ((m : Int) + 1) Tryz.underlying9, dif_pos (by omega)]
    simp only [show ((m : Int) + 1).toNat = m + 1 by omega, hq2]
  have htz : t.size ≤ 2000 := by rw [← ht, ByteArray.size_extract]; omega
  have HRI := Lib.hid (riR_2 (s := s) ⟨by omega, by omega, by rw [HM.out, show m + 3 - 1 = m + 2 by omega, G1.out]; exact h3⟩ (t := t) (by rw [HM.out]; exact ht) (p := q3) (q := q2) (by rw [HM.out]; exact G3.out) (by rw [HM.out, show m + 3 - 2 = m + 1 by omega]; exact G2.out))
  obtain ⟨sm, hsm, hsl⟩ := sumN2 t.data.toList
  have HSM := Lib.hid hsm
  have hw0 : IntKind.i64.wrap (m : Int) = (m : Int) := IntWalk.i64_in _ (by omega)
  have hw1 : IntKind.i64.wrap ((m : Int) + 1) = (m : Int) + 1 := IntWalk.i64_in _ (by omega)
  have hw2 : IntKind.i64.wrap (q2 : Int) = (q2 : Int) := IntWalk.i64_in _ (by omega)
  have hw3 : IntKind.i64.wrap (q3 : Int) = (q3 : Int) := IntWalk.i64_in _ (by omega)
  have hw5 : IntKind.i64.wrap ((q3 : Int) * 256 + (q2 : Int)) = (q3 : Int) * 256 + (q2 : Int) := IntWalk.i64_in _ (by omega)
  have hw4 : IntKind.i64.wrap ((q3 : Int) * 256) = (q3 : Int) * 256 := IntWalk.i64_in _ (by omega)
  clear h3 ht hsm
  go_enter Tryz.func4, Tryz.ntmps4
  go_upto_region 5 with fail
  refine wp_region_noPanic ?_
  refine wp_region_hd (S := (fun V' => True)) 15 (by kernel_rfl) (by kernel_rfl) trivial (fun hR0 => ?_)
  refine takeH 0 ?_
  refine takeH 2 ?_
  refine takeH 3 ?_
  refine takeH 4 ?_
  refine takeH 5 ?_
  refine takeH 6 ?_
  refine takeH 7 ?_
  refine takeH 8 ?_
  refine takeH 9 ?_
  refine takeH 10 ?_
  refine takeH 11 ?_
  refine takeH 12 ?_
  refine takeH 13 ?_
  refine wpAnyH_ready (rs := [1]) (by kernel_rfl) (by simp) ?_
  refine AllReadyH.cons (i := 1) rfl (fun K hK => ?_) AllReadyH.nil
  go_simp
  go_at_call 9
  ((with_reducible refine (specL12Sum t _ (by unfold maxLen; omega)).mono ?_))
  rintro e w5 ⟨rfl, hw5⟩
  have t5 : Below w.heap.size w w5 := by rw [← hw5]; exact beloA
  have r0 : w5.cell? ⟨w.heap.size, 0, none⟩ = some (.slice none 0 0) := by rw [← hw5]; simp [go_sem]
  have rf : w5.frozen? ⟨w.heap.size, 0, none⟩ = false := by rw [← hw5]; simp [go_sem]
  have zR : w.heap.size < w5.heap.size := World.block_lt_of_cell? w5 _ r0
  clear hw5
  rw [HSM.out]
  go_wp2_with fail
  refine hK.out _ _ trivial (fun hR1 => ?_)
  clear hK K
  try simp only [Act.put, List.getElem_toArray, List.getElem_cons_zero, List.getElem_cons_succ, List.setIfInBounds_toArray, List.set_cons_zero, List.set_cons_succ]
  refine takeH 14 ?_
  refine wpAnyH_done (by kernel_rfl) ?_ _
  refine NoPanic.normal ?_
  clear hR0 hR1
  by_cases h5 : sm = q3 * 256 + q2
  rotate_left
  · have hne2 : ((sm : Int) != (q3 : Int) * 256 + (q2 : Int)) = true := bne_iff_ne.2 (by omega)
    have hno := Lib.hid (show riR s = ([], 2, false) from by rw [HRI.out, if_neg (fun h => h5 (by rw [HSM.out] at h; omega))])
    clear h5
    go_wp2_with fail
    refine bodyPost_ret (v := .tuple #[.agg #[.slice none 0 0], .int .i64 2, .bool false]) (by simp [results, Tryz.results4, go_sem, r0]) rfl ?_
    exact RetRiS.no HZ.out hno.out (by exact belA)
  have hne2 : ((sm : Int) != (q3 : Int) * 256 + (q2 : Int)) = false := by rw [h5]; simp
  have HR2 := Lib.hid (show riR s = (if (bodyR t).2 = true then (if goodI (bodyR t).1 = true then ((bodyR t).1, 0, true) else ([], 4, false)) else ([], 3, false)) from by rw [HRI.out, if_pos (by rw [HSM.out]; omega)])
  clear h5
  go_wp2_with fail
  obtain ⟨B, hB⟩ : ∃ B, w5.heap.size = B := ⟨_, rfl⟩
  have hrd : RdrB (w5.alloc (.cells #[.string t, .int .i64 0, .bool true] 33)) B 33 t 0 true := alloc_new' hB
  have HRD := Lib.hid hrd
  have b5 : Below w5.heap.size w5 (w5.alloc (.cells #[.string t, .int .i64 0, .bool true] 33)) := by exact belA
  rw [hB] at b5 zR
  have HB5 := Lib.hid b5
  rw [hB]
  clear hrd b5
  refine (specNumber _ B t 0 true 5 (by omega) (by unfold maxLen; omega) (by unfold I64; omega) HRD.out).mono ?_
  rintro e w6 ⟨n, x', ok', rfl, hn5, hx', HP, HR6, hf6⟩
  have hf6' : Fr [B] w5 w6 := Fr.trans (Fr.of_below (by rw [hB]; exact HB5.out)) hf6
  have t6 : Below w.heap.size w w6 := below_fr t5 hf6' (fun k hk => by rw [List.mem_singleton.1 hk]; omega)
  obtain ⟨c0, c1, c2⟩ := HR6.out.cells
  have zB6 := blk_size HR6.out
  have zR6 : w.heap.size < w6.heap.size := by omega
  have hRB : w.heap.size ∉ [B] := fun h => by rw [List.mem_singleton.1 h] at zR; omega
  have r06 := cell_fr hf6' hRB r0
  have rf6 : w6.frozen? ⟨w.heap.size, 0, none⟩ = false := (World.frozen?_of_block (w := w5) (a := ⟨w.heap.size, 0, none⟩) (hf6'.block w.heap.size (by omega) hRB)).trans rf
  have HNO := Lib.hid (show (ok' = true → n < 1) → bodyR t = ([], false) from fun h => bodyR_no (fun h2 => by
    obtain ⟨l, e, ht⟩ := tg_cnt h2.1 htz h2.2.2
    obtain ⟨g1, g2, g3⟩ := HP.out.2 (gb t 0) l e (by omega) ht rfl
    have := h g2
    omega))
  clear r0 rf hRB hf6 hf6' HRD HB5 hB
  have HNB := Lib.hid (show bodyR t = ([], false) → riR s = ([], 3, false) from fun h => by rw [HR2.out, h]; simp)
  cases ok'
  · have hno := Lib.hid (HNB.out (HNO.out (by simp)))
    go_wp2_with fail
    refine bodyPost_ret (v := .tuple #[.agg #[.slice none 0 0], .int .i64 3, .bool false]) (by simp [results, Tryz.results4, go_sem, r06, zR6]) rfl ?_
    exact RetRiS.no HZ.out hno.out (by exact belA)
  by_cases hn1 : n < 1
  · have hno := Lib.hid (HNB.out (HNO.out (fun _ => hn1)))
    obtain ⟨q1, q2, q3⟩ := HP.out.1 rfl
    obtain ⟨_, mm, _, hmm, _⟩ := HP.out.1 rfl |>.2.2.2.2.2
    have hn0 : n = 0 := by omega
    subst hn0
    clear hn1 hn5 q1 q2 q3 hmm
    go_wp2_with fail
    refine bodyPost_ret (v := .tuple #[.agg #[.slice none 0 0], .int .i64 3, .bool false]) (by simp [results, Tryz.results4, go_sem, r06, zR6]) rfl ?_
    exact RetRiS.no HZ.out hno.out (by exact belA)
  obtain ⟨q1, q2, rfl⟩ := cnt_of (HP.out.1 rfl).2.2.2.2.2 (by omega)
  obtain ⟨cnt, rfl⟩ := Int.eq_ofNat_of_zero_le (show 0 ≤ n by omega)
  obtain ⟨bR, hbR⟩ : ∃ r, bodyR t = r := ⟨_, rfl⟩
  have HB := Lib.hid (show (if (rdL t cnt 1 []).2.2 = true ∧ (rdL t cnt 1 []).2.1 = (t.size : Int) then ((rdL t cnt 1 []).1, true) else ([], false)) = bR from by rw [← hbR]; exact (bodyR_yes ⟨q1, by omega, by omega⟩ (by omega)).symm)
  have HBR := Lib.hid hbR
  have hcn : cnt ≤ 5 := by omega
  have hc0 : ((cnt : Int) == 0) = false := beq_eq_false_iff_ne.2 (by omega)
  have htm : t.size ≤ maxLen := by unfold maxLen; omega
  obtain ⟨inf, hif, iz0, iz1, iz2⟩ := info_parts Tryz.infoCodeM
  have HIF := Lib.hid hif
  have HZ0 := Lib.hid iz0
  have HZ1 := Lib.hid iz1
  have HZ2 := Lib.hid iz2
  clear hbR HNO HP q2 hn5 hn1 hif iz0 iz1 iz2
  go_wp2_with fail
  go_loopw [8, 10] (fun iv av wr => ∃ (k : Nat) (y : Int) (l : List Code) (v : Value) (F : List Nat), k ≤ cnt ∧ iv = .int .i64 ((cnt : Int) - (k : Int)) ∧ av = .int .i64 y ∧ I64 y ∧ Hid (CdSo t cnt w6 w6.heap.size wr k y l v F)) (fun iv _ _ => (intOf iv).toNat)
  case atStart => exact ⟨0, 1, [], .slice none 0 0, [], Nat.zero_le _, congrArg (Value.int .i64) (by omega), rfl, by unfold I64; omega, Lib.hid ⟨OwnSl.nil_ _ _ _, rfl, by simp, by simp [go_sem], by simp [go_sem], by exact belA, rfl, Nat.le_refl _⟩⟩
  case round =>
    obtain ⟨k, y, l, v, F, hk, rfl, rfl, hy, HC⟩ := hrel
    have kx := HC.out.cell
    have kf := HC.out.fz
    have rr := below_cell HC.out.bl r06
    have rrf := (HC.out.bl.frozen (p := ⟨w.heap.size, 0, none⟩) zR6).trans rf6
    have zr : w6.heap.size < wr.heap.size := World.block_lt_of_cell? wr _ kx
    have zRr : w.heap.size < wr.heap.size := by omega
    have hbw := Lib.hid (t6.trans (HC.out.bl.mono t6.size))
    by_cases hlt : k < cnt
    · have hki : (cnt : Int) - (k : Int) > 0 := by omega
      have hrc := specL12Read wr t y htm hy
      obtain ⟨⟨⟨y0, y1, y2, y3, y4⟩, z, ok⟩, hz⟩ : ∃ z, rcR t y = z := ⟨_, rfl⟩
      have HRC := Lib.hid hrc
      have HZC := Lib.hid hz
      have HOK := Lib.hid (show ok = true → cbB (y0, y1, y2, y3, y4) = true ∧ 0 ≤ z ∧ z ≤ 2000 from fun h => by have := rcR_ok (s := t) (x := y) (by rw [hz]; exact h); rw [hz] at this; exact this)
      clear hrc hz
      go_wp2_with fail
      refine HRC.out.mono ?_
      rintro e w7 h7
      obtain ⟨A2, n2, c2, A3, n3, c3, A4, n4, c4, F2, F3, F4, rfl, o2, o3, o4, nd, hF, b7⟩ := h7.toO HZC.out
      clear h7 kx kf rr rrf
      have HC7 := Lib.hid (HC.out.below b7)
      have kx := HC7.out.cell
      have kf := HC7.out.fz
      have rr := below_cell HC7.out.bl r06
      have rrf := (HC7.out.bl.frozen (p := ⟨w.heap.size, 0, none⟩) zR6).trans rf6
      have zr7 : w6.heap.size < w7.heap.size := World.block_lt_of_cell? w7 _ kx
      have zR7 : w.heap.size < w7.heap.size := by omega
      cases ok
      · have hno := Lib.hid (HNB.out (by
          have h9 := HC.out.eq
          rw [show cnt - k = (cnt - (k + 1)) + 1 by omega, rdL_step HZC.out, if_neg (by simp)] at h9
          rw [HBR.out, ← HB.out, ← h9]; simp))
        clear o2 o3 o4 nd hF
        go_wp2_with fail
        refine bodyPost_ret (v := .tuple #[.agg #[.slice none 0 0], .int .i64 3, .bool false]) (by simp [results, Tryz.results4, go_sem, rr, zR7]) rfl ?_
        have t7 : Below w.heap.size w w7 := t6.trans (HC7.out.bl.mono t6.size)
        exact RetRiS.no HZ.out hno.out (by exact belA)
      obtain ⟨p0, p1, p2⟩ := HOK.out rfl
      obtain ⟨i0, i1, _⟩ := cbB_parts p0
      have hC := Code_own o2 o3 o4 (show I64 y0 by unfold I64; omega) (show I64 y1 by unfold I64; omega) nd
      obtain ⟨Fc, hFc⟩ : ∃ Fc, Fc = F2 ++ (F3 ++ F4) := ⟨_, rfl⟩
      rw [← hFc] at hC hF
      have zb7 := b7.size
      have hdj : ∀ j, j ∈ Fc → j ∉ F := fun j hj hf => by have := hF j hj; have := HC.out.own.lt j hf; omega
      have l7 : ∀ j, j ∈ Fc → j < w7.heap.size := CodeR.ownLt hC
      have hlen := Lib.hid HC7.out.len
      have hl5 : l.length ≤ 5 := by have := hlen.out; omega
      clear hFc nd o2 o3 o4 p0 i0 i1
      go_wp2_with (at_builtin; refine wpl_own1 _ rfl _ _ 22 rfl CodeR 39 inf (.agg #[.int .i64 0, .int .i64 0, .slice none 0 0, .slice none 0 0, .slice none 0 0]) 5 88 Tryz.underlying22 HIF.out HZ0.out HZ1.out HZ2.out rfl rfl (by decide) v l.length l F rfl rfl (HC7.out.own.below (show Below w7.heap.size w7 _ by exact belA)) ⟨w7.heap.size + 1, 0, none⟩ 1 [.int .i64 y0, .int .i64 y1, .slice A2 n2 c2, .slice A3 n3 c3, .slice A4 n4 c4] (y0, y1, y2, y3, y4) Fc rfl (cells_new _ _ _ (by simp)) (CodeR.ownKeep (fun k hk => (show Below w7.heap.size w7 _ by exact belA).block k (l7 k hk)) hC) code_oneM hdj (by omega) (by decide) ?_)
      intro v' w8 F' ho8 hg8 hF8
      obtain ⟨A8, n8, c8, hv8, hn8⟩ := ho8.form
      clear hn8
      subst hv8
      have hm : Below w7.heap.size w7 ((w7.alloc (.cells #[.int .i64 y0, .int .i64 y1, .slice A2 n2 c2, .slice A3 n3 c3, .slice A4 n4 c4] 39)).alloc (.cells #[.int .i64 y0, .int .i64 y1, .slice A2 n2 c2, .slice A3 n3 c3, .slice A4 n4 c4] 39)) := by exact belA
      have HCN := Lib.hid ((HC7.out.below hm).step hlt HZC.out ho8 hg8 (fun j hj => by
        rcases hF8 j hj with h | h | h
        · exact Or.inl h
        · exact Or.inr (Or.inl h)
        · exact Or.inr (Or.inr (by simp; omega))) (fun j hj => by have := hF j hj; omega))
      have hk8 : ∀ b, b ≤ w6.heap.size → w8.heap[b]? = w7.heap[b]? := fun b hb => (hg8.block b (by have := hm.size; omega) (fun e => by have := HC7.out.new b (HC7.out.own.ownB b e.symm); omega)).trans (hm.block b (by omega))
      have kx8 : w8.cell? ⟨w6.heap.size, 0, none⟩ = some v := (World.cell?_of_block (w := w7) (a := ⟨w6.heap.size, 0, none⟩) (hk8 _ (Nat.le_refl _))).trans kx
      have kf8 : w8.frozen? ⟨w6.heap.size, 0, none⟩ = false := (World.frozen?_of_block (w := w7) (a := ⟨w6.heap.size, 0, none⟩) (hk8 _ (Nat.le_refl _))).trans kf
      have hy2 : I64 z := by unfold I64; omega
      clear hm hk8 hg8 ho8 hF8 kx kf rr rrf hC hdj l7 hF b7
      go_wp2_with fail
      go_roundw
      case rel => exact ⟨k + 1, z, l ++ [(y0, y1, y2, y3, y4)], .slice A8 n8 c8, F', by omega, congrArg (Value.int .i64) (by omega), rfl, hy2, HCN⟩
      case measure => simp [intOf]; omega
    · have hkn : k = cnt := by omega
      obtain ⟨A0, n0, c0', rfl, hn0⟩ := HC.out.own.form
      have heq := HC.out.eq
      rw [show cnt - k = 0 by omega] at heq
      have HEQ := Lib.hid (show (if y = (t.size : Int) then (l, true) else ([], false)) = bR from by
        rw [← HB.out, ← heq]; simp [rdL])
      have hki : ¬ (cnt : Int) - (k : Int) > 0 := by omega
      clear hn0 heq hkn hlt
      by_cases hys : y = (t.size : Int)
      rotate_left
      · have hne3 : (y != (t.size : Int)) = true := bne_iff_ne.2 hys
        have hno := Lib.hid (HNB.out (by rw [HBR.out, ← HEQ.out, if_neg hys]))
        clear hys
        go_wp2_with fail
        refine bodyPost_ret (v := .tuple #[.agg #[.slice none 0 0], .int .i64 3, .bool false]) (by simp [results, Tryz.results4, go_sem, rr, zRr]) rfl ?_
        exact RetRiS.no HZ.out hno.out (by have := hbw.out; exact belA)
      have hne3 : (y != (t.size : Int)) = false := by rw [hys]; simp
      have HR3 := Lib.hid (show riR s = (if goodI l = true then (l, 0, true) else ([], 4, false)) from by rw [HR2.out, HBR.out, ← HEQ.out, if_pos hys]; simp)
      clear hys
      go_wp2_with fail
      refine (specGoodImage _ 0 wr.heap.size A0 n0 c0' l HC.out.own.sl (Nat.le_refl _)).mono ?_
      rintro e w9 ⟨rfl, b9⟩
      have x9 := below_cell b9 kx
      have r09 := below_cell b9 rr
      have rf9 := (b9.frozen (p := ⟨w.heap.size, 0, none⟩) zRr).trans rrf
      have zR9 : w.heap.size < w9.heap.size := by have := b9.size; omega
      have t9 : Below w.heap.size w w9 := hbw.out.trans (b9.mono hbw.out.size)
      obtain ⟨g, hg⟩ : ∃ g, goodI l = g := ⟨_, rfl⟩
      rw [hg]
      have HG := Lib.hid hg
      clear hg rr rrf kx kf
      cases g
      · have hno := Lib.hid (show riR s = ([], 4, false) from by rw [HR3.out, if_neg (by rw [HG.out]; simp)])
        go_wp2_with fail
        refine bodyPost_ret (v := .tuple #[.agg #[.slice none 0 0], .int .i64 4, .bool false]) (by simp [results, Tryz.results4, go_sem, r09, zR9]) rfl ?_
        exact RetRiS.no HZ.out hno.out (by exact belA)
      · have hyes := Lib.hid (show (l, 0, true) = (x, i, b) from by rw [← HZ.out, HR3.out, if_pos HG.out])
        go_wp2_with fail
        refine bodyPost_ret (v := .tuple #[.agg #[.slice A0 n0 c0'], .int .i64 0, .bool true]) (by simp [results, Tryz.results4, go_sem, r09, zR9]) rfl ?_
        have hy := hyes.out
        simp only [Prod.mk.injEq] at hy
        obtain ⟨rfl, rfl, rfl⟩ := hy
        have hf : Fr [w.heap.size] w9 (w9.setCell ⟨w.heap.size, 0, none⟩ (.slice A0 n0 c0')) := by exact frcA
        exact ⟨A0, n0, c0', rfl, ((HC.out.own.below b9).fr hf (fun k hk h2 => by have := HC.out.new k hk; rw [List.mem_singleton.1 h2] at this; omega)).sl, by exact belA⟩
theorem implReadImageC (w : World) (s : ByteArray) (hs : s.size ≤ maxLen) (x : List Code) (hz : (riR s).1 = x) (i : Int) (hi : (riR s).2.1 = i) (b : Bool) (hb : (riR s).2.2 = b) :
    Calls Tryz.prog 5 #[.string s] w (RetRiO x i b w) := implReadImageO w s hs x i b (by rw [← hz, ← hi, ← hb])
theorem specReadImageC (w : World) (s : ByteArray) (hs : s.size ≤ maxLen) (x : List Code) (hz : (riR s).1 = x) (i : Int) (hi : (riR s).2.1 = i) (b : Bool) (hb : (riR s).2.2 = b) :
    Calls Tryz.prog 4 #[.string s] w (RetRiS x i b w) := specReadImageO w s hs x i b (by rw [← hz, ← hi, ← hb])
theorem rdL_sz (s : ByteArray) : ∀ (k : Nat) (x : Int) (l : List Code), mszLCode (rdL s k x l).1 ≤ mszLCode l + 1001 * k
  | 0, x, l => by rw [rdL]; exact Nat.le_add_right _ _
  | k + 1, x, l => by
    rw [rdL]
    split
    · have h1 := rdL_sz s k (rcR s x).2.1 (l ++ [(rcR s x).1])
      have h2 := rcR_sz s x
      have h3 : mszLCode (l ++ [(rcR s x).1]) = mszLCode l + (1 + mszCode (rcR s x).1) := by unfold mszLCode; rw [List.length_append, List.map_append, List.sum_append_nat]; simp only [List.length_cons, List.length_nil, List.map_cons, List.map_nil, List.sum_cons, List.sum_nil]; omega
      unfold mszCode at h3
      omega
    · simp [mszLCode]
theorem riR_sz (s : ByteArray) : mszLCode (riR s).1 ≤ 10000 := by
  have hb : mszLCode (bodyR (s.extract 0 (s.size - 3))).1 ≤ 10000 := by
    unfold bodyR
    split
    · rename_i h
      have := rdL_sz (s.extract 0 (s.size - 3)) (gb (s.extract 0 (s.size - 3)) 0) 1 []
      have h0 : mszLCode [] = 0 := by simp [mszLCode]
      simp only
      omega
    · simp [mszLCode]
  unfold riR
  have h0 : mszLCode [] ≤ 10000 := by simp [mszLCode]
  split
  · split
    · split
      · split
        · exact hb
        · exact h0
      · exact h0
    · exact h0
  · exact h0
end Go.Proofs.YtgoinmdnpaknpaaGreat
