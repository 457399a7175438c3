/- Programs done with fuel: the reference's RunBig, and both as contracts. Walk. -/
import Derived.Test.YtgoinmdnpaknpaaBigWt
import Derived.Test.YtgoinmdnpaknpaaBigWs
set_option linter.unusedVariables false
set_option linter.unusedSimpArgs false
set_option maxRecDepth 100000
namespace Go.Proofs.Ytgoinmdnpaknpaa
open Go.RowKit
attribute [local irreducible] wpList
set_option maxHeartbeats 16000000 in
theorem specRunBig2 (w : World) (A : Option Addr) (n c : Nat) (x : List Func) (h : Sl FuncR w 0 w.heap.size A n c x) (hm : mszLFunc x ≤ 1048576) (Ai : Option Addr) (ni ci : Nat) (ins : List Int) (hi : Sl intR w 0 w.heap.size Ai ni ci ins) (most fuel : Int) (b : Bool) (hb : (askP x ins most && inB fuel 0 600) = b) :
    Calls Try.prog 22 #[.agg #[.slice A n c], .slice Ai ni ci, .int .i64 most, .int .i64 fuel] w (RetOcO (runBigR x ins most fuel).1 (runBigR x ins most fuel).2.1 (runBigR x ins most fuel).2.2.1 (runBigR x ins most fuel).2.2.2 b w) := by
  obtain ⟨b1, hb1⟩ : ∃ b, askP x ins most = b := ⟨_, rfl⟩
  obtain ⟨b2, hb2⟩ : ∃ b, inB fuel 0 600 = b := ⟨_, rfl⟩
  have B1 := Lib.hid hb1
  have B2 := Lib.hid hb2
  rw [hb1, hb2] at hb
  have HB := Lib.hid hb
  obtain ⟨rr, hrr⟩ : ∃ r, runBigR x ins most fuel = r := ⟨_, rfl⟩
  rw [hrr]
  have HRR := Lib.hid hrr
  have HR0 := Lib.hid (show (b1 && b2) = false → rr = (0, 0, [], 0) from fun h => by
    rw [← hrr]
    unfold runBigR
    rw [if_neg (by rw [hb1, hb2]; intro h2; rw [h2.1, h2.2] at h; cases h)])
  clear hb1 hb2 hb hrr
  go_enter Try.func22, Try.ntmps22
  go_wp2_with fail
  obtain ⟨W, hW⟩ : ∃ W, W = (w.alloc (.cells #[.slice A n c] 43)).alloc (.cells #[.int .i64 0, .int .i64 0, .slice none 0 0, .int .i64 0] 50) := ⟨_, rfl⟩
  have hbW : Below w.heap.size w W := by rw [hW]; exact belA
  have hI : W.cell? ⟨w.heap.size, 0, none⟩ = some (.slice A n c) := by rw [hW]; simp [go_sem]
  have hRb : W.heap[w.heap.size + 1]? = some (.cells #[.int .i64 0, .int .i64 0, .slice none 0 0, .int .i64 0] 50) := by rw [hW]; exact alloc_new' (by simp)
  have hzW : W.heap.size = w.heap.size + 2 := by rw [hW]; simp
  rw [← hW]
  clear hW
  obtain ⟨R, hR⟩ : ∃ R, w.heap.size + 1 = R := ⟨_, rfl⟩
  rw [hR] at hRb ⊢
  have hRw : w.heap.size < R := by omega
  have hRW : R < W.heap.size := by omega
  clear hR hzW
  have hzW := hbW.size
  refine (specL4Asked W A n c x (h.next hbW) hm Ai ni ci ins (hi.next hbW) most).mono ?_
  rintro e w1 ⟨rfl, hx1⟩
  rw [B1.out]
  have hbw1 : Below w.heap.size w w1 := below_trB hbW (hx1.mono hzW)
  have hz1 := hx1.size
  have hI1 := below_cell hx1 hI
  have hR1 : w1.heap[R]? = some (.cells #[.int .i64 0, .int .i64 0, .slice none 0 0, .int .i64 0] 50) := below_at hx1 hRW hRb
  have hR1l := blk_size hR1
  have hc := fun o => cell_of_row w1 R o _ _ _ hR1
  have q0 := hc 0
  have q1 := hc 1
  have q2 := hc 2
  have q3 := hc 3
  have qf := blk_frozen hR1
  clear hRb hI hx1 hc
  cases b1
  · have HR9 := Lib.hid (HR0.out rfl)
    have hbf := Lib.hid (show b = false by rw [← HB.out]; rfl)
    go_wp2_with fail
    refine bodyPost_ret (v := .tuple #[.agg #[.int .i64 0, .int .i64 0, .slice none 0 0, .int .i64 0], .bool false]) (by simp [results, Try.results22, go_sem, q0, q1, q2, q3, qf, hR1l]) rfl ?_
    (rw [HR9.out, hbf.out]; exact RetOcO.bad (by exact beloA))
  · go_wp2_with fail
    refine (specL1In w1 fuel 0 600).mono ?_
    rintro e w2 ⟨rfl, rfl⟩
    rw [B2.out]
    cases b2
    · have HR9 := Lib.hid (HR0.out rfl)
      have hbf := Lib.hid (show b = false by rw [← HB.out]; rfl)
      go_wp2_with fail
      refine bodyPost_ret (v := .tuple #[.agg #[.int .i64 0, .int .i64 0, .slice none 0 0, .int .i64 0], .bool false]) (by simp [results, Try.results22, go_sem, q0, q1, q2, q3, qf, hR1l]) rfl ?_
      (rw [HR9.out, hbf.out]; exact RetOcO.bad (by exact beloA))
    · have hbf := Lib.hid (show b = true by rw [← HB.out]; rfl)
      obtain ⟨hmo, hcfg⟩ := askP_cfg B1.out
      have hfu := inB_iff.1 B2.out
      obtain ⟨mN, rfl⟩ := Int.eq_ofNat_of_zero_le (show 0 ≤ most by omega)
      obtain ⟨fN, rfl⟩ := Int.eq_ofNat_of_zero_le hfu.1
      have HBR := Lib.hid (show rr = bigR x ins mN fN from by
        rw [← HRR.out]; unfold runBigR; rw [if_pos ⟨B1.out, B2.out⟩]; simp)
      have HCF := Lib.hid (show CfgG ⟨x, ins, mN⟩ from by simpa using hcfg)
      have hfN : fN ≤ 600 := by omega
      clear hmo hcfg hfu
      go_wp2_with fail
      refine (specL4Run1 w1 A n c x (h.next hbw1) Ai ni ci ins (hi.next hbw1) mN fN HCF.out hfN).mono ?_
      rintro e w2 ⟨A2, n2, c2, F2, rfl, ho, hF2, hb2⟩
      rw [← HBR.out] at ho
      rw [← HBR.out]
      have HO := Lib.hid ho
      have HF2 := Lib.hid hF2
      have hz2 := hb2.size
      have p0 := below_cell hb2 q0
      have p1 := below_cell hb2 q1
      have p2 := below_cell hb2 q2
      have p3 := below_cell hb2 q3
      have pf := fun o => below_frozen (p := ⟨R, o, none⟩) hb2 hR1l (qf o)
      have hRl3 : R < w2.heap.size := by omega
      have HB2 := Lib.hid (show Below w.heap.size w w2 from below_trB hbw1 (hb2.mono (by have := hbw1.size; omega)))
      obtain ⟨o0, o1, o2, o3⟩ := rr
      clear q0 q1 q2 q3 qf ho hF2 hb2 hI1 hR1
      simp only
      go_wp2_with fail
      refine bodyPost_ret (v := .tuple #[.agg #[.int .i64 o0, .int .i64 o1, .slice A2 n2 c2, .int .i64 o3], .bool true]) (by simp [results, Try.results22, go_sem, p0, p1, p2, p3, pf, hRl3]) rfl ?_
      have hfr : Fr [R] w2 ((((w2.setCell ⟨R, 0, none⟩ (.int .i64 o0)).setCell ⟨R, 1, none⟩ (.int .i64 o1)).setCell ⟨R, 2, none⟩ (.slice A2 n2 c2)).setCell ⟨R, 3, none⟩ (.int .i64 o3)) := by exact frcA
      rw [hbf.out]
      exact ⟨A2, n2, c2, F2, rfl, HO.out.fr hfr (fun k hk hx => by have := HF2.out k hk; have := List.mem_singleton.1 hx; omega), ownB_nd HO.out, fun k hk => by have := HF2.out k hk; have := hbw1.size; omega, below_trB HB2.out (below_frB hfr HB2.out.size (fun k hk => by rw [List.mem_singleton.1 hk]; omega))⟩
theorem bigR_long {x : List Func} {ins : List Int} {most fuel : Nat} (hc : CfgG ⟨x, ins, most⟩) (hf : fuel ≤ 600) : (bigR x ins most fuel).2.2.1.length ≤ 600 := by
  have hmany := hc.many
  have h := ((big_ok hc fuel hf).1 600 0 [] 1 none ⟨0, fuel, []⟩ (by simp only; simp only at hmany; omega) (by simp) (fun x hx => by cases hx) (fun e he => by cases he) ⟨Nat.zero_le _, by simp only [List.length_nil]; omega, fun n hn => by cases hn⟩ (Nat.le_refl _)).sok.long
  unfold bigR
  simp only
  omega
theorem runBigR_sz (x : List Func) (ins : List Int) (most fuel : Int) : (runBigR x ins most fuel).2.2.1.length ≤ 600 := by
  unfold runBigR
  split
  · rename_i hq
    have hfu := inB_iff.1 hq.2
    exact bigR_long (askP_cfg hq.1).2 (by omega)
  · simp
theorem implRunBigC (w : World) (A : Option Addr) (n c : Nat) (x : List Func) (Ai : Option Addr) (ni ci : Nat) (ins : List Int) (most fuel : Int) (h : Sl FuncR w 0 w.heap.size A n c x) (hm : mszLFunc x ≤ 1048576) (hi : Sl intR w 0 w.heap.size Ai ni ci ins) (_ : I64 most) (_ : I64 fuel) (x0 x1 : Int) (s2 : List Int) (x3 : Int) (hz : runBigR x ins most fuel = (x0, x1, s2, x3)) (b : Bool) (hb : (askP x ins most && inB fuel 0 600) = b) :
    Calls Try.prog 23 #[.agg #[.slice A n c], .slice Ai ni ci, .int .i64 most, .int .i64 fuel] w (RetOcO x0 x1 s2 x3 b w) := by
  have h1 := implRunBig2 w A n c x h hm Ai ni ci ins hi most fuel b hb
  rw [hz] at h1
  exact h1
theorem specRunBigC (w : World) (A : Option Addr) (n c : Nat) (x : List Func) (Ai : Option Addr) (ni ci : Nat) (ins : List Int) (most fuel : Int) (h : Sl FuncR w 0 w.heap.size A n c x) (hm : mszLFunc x ≤ 1048576) (hi : Sl intR w 0 w.heap.size Ai ni ci ins) (_ : I64 most) (_ : I64 fuel) (x0 x1 : Int) (s2 : List Int) (x3 : Int) (hz : runBigR x ins most fuel = (x0, x1, s2, x3)) (b : Bool) (hb : (askP x ins most && inB fuel 0 600) = b) :
    Calls Try.prog 22 #[.agg #[.slice A n c], .slice Ai ni ci, .int .i64 most, .int .i64 fuel] w (RetOcS x0 x1 s2 x3 b w) := by
  have h1 := specRunBig2 w A n c x h hm Ai ni ci ins hi most fuel b hb
  rw [hz] at h1
  exact h1.mono fun _ _ h => h.toS
end Go.Proofs.Ytgoinmdnpaknpaa
