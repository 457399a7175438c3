/- slices.Repeat of one int; math/bits.Mul. Walks. -/
import Derived.Test.YtgoinmdnpaknpaaGreatNext
import Derived.Shelf.Bits.Mul64
import Derived.Deep.RegionLaw
import Derived.Deep.RegionHeld3
set_option linter.unusedVariables false
set_option linter.unusedSimpArgs false
set_option maxRecDepth 100000
namespace Go.Proofs.YtgoinmdnpaknpaaGreat
open Go.RowKit
set_option maxHeartbeats 1000000 in
theorem bitsMul64 (x y : Nat) (hx : x < 18446744073709551616) (hy : y < 18446744073709551616) (w : World) :
    Calls Tryz.prog 118 #[.int .u64 x, .int .u64 y] w fun e w' => e = .returned (.tuple #[.int .u64 ((x * y / 18446744073709551616 : Nat) : Int), .int .u64 ((x * y % 18446744073709551616 : Nat) : Int)]) ∧ w' = w := by
  obtain ⟨bd, bt, bw, hhi⟩ := Lib.mul64_hi x y hx hy
  have ba := Lib.half_mul_le (a := x / 4294967296) (b := y / 4294967296) (by omega) (by omega)
  have bb := Lib.half_mul_le (a := x / 4294967296) (b := y % 4294967296) (by omega) (by omega)
  have bc := Lib.half_mul_le (a := x % 4294967296) (b := y / 4294967296) (by omega) (by omega)
  have ba' : x / 4294967296 * (y / 4294967296) < 18446744073709551616 := by omega
  have bb' : x / 4294967296 * (y % 4294967296) < 18446744073709551616 := by omega
  have bc' : x % 4294967296 * (y / 4294967296) < 18446744073709551616 := by omega
  have bh1 : x / 4294967296 * (y / 4294967296) + (x / 4294967296 * (y % 4294967296) + x % 4294967296 * (y % 4294967296) / 4294967296) / 4294967296 < 18446744073709551616 := by omega
  have bh : x / 4294967296 * (y / 4294967296) + (x / 4294967296 * (y % 4294967296) + x % 4294967296 * (y % 4294967296) / 4294967296) / 4294967296 + ((x / 4294967296 * (y % 4294967296) + x % 4294967296 * (y % 4294967296) / 4294967296) % 4294967296 + x % 4294967296 * (y / 4294967296)) / 4294967296 < 18446744073709551616 := by omega
  go_enter Tryz.func118, Tryz.ntmps118
  go_wp2
  simp only [Mul64.maskN x hx, Mul64.maskN y hy, Mul64.divN, Mul64.mulN, Mul64.addN, Mul64.wrapN _ bd, Mul64.wrapN _ bb', Mul64.wrapN _ bt, Mul64.maskN _ bt, Mul64.wrapN _ bc', Mul64.wrapN _ bw, Mul64.wrapN _ ba', Mul64.wrapN _ bh1, Mul64.wrapN _ bh, Mul64.wrapM (x * y)]
  rw [hhi]
  go_ret2
  exact ⟨rfl, rfl⟩
theorem bitsMulOne (n : Nat) (hn : n ≤ 1048576) (w : World) :
    Calls Tryz.prog 113 #[.int .u64 1, .int .u64 n] w fun e w' => e = .returned (.tuple #[.int .u64 0, .int .u64 n]) ∧ w' = w := by
  have c64 := bitsMul64 1 n (by omega) (by omega) w
  rw [show 1 * n / 18446744073709551616 = 0 by omega, show 1 * n % 18446744073709551616 = n by omega] at c64
  go_enter Tryz.func113, Tryz.ntmps113
  go_wp2_with (go_at_call 118; refine c64.mono ?_; rintro e w' ⟨rfl, hw⟩; rw [hw])
  go_ret2
  exact ⟨rfl, rfl⟩
set_option maxHeartbeats 4000000 in
theorem repeatInts (w : World) (gx cx : Nat) (x : Int) (n : Nat) (hx : w.cell? ⟨gx, 0, none⟩ = some (.int .i64 x)) (h1 : 1 ≤ n) (h2 : n ≤ 1048576) :
    Calls Tryz.prog 100 #[.slice (some ⟨gx, 0, none⟩) 1 cx, .int .i64 n] w (RetInts (List.replicate n x) w) := by
  obtain ⟨i0, hi0, hz0, hz1, hz2⟩ := info_parts Tryz.infoInt
  have HI0 := Lib.hid hi0
  have HZ0 := Lib.hid hz0
  have HZ1 := Lib.hid hz1
  have HZ2 := Lib.hid hz2
  have HSZ := Lib.hid (show (Tryz.prog.info? 3).map (·.size) = some 1 by rw [hi0]; simp [hz1])
  have HMUL := Lib.hid (fun w => bitsMulOne n h2 w)
  have hlx := World.block_lt_of_cell? w _ hx
  have hn0 : decide ((n : Int) < 0) = false := by simp
  have hbig : decide ((9223372036854775807 : Int) < (n : Int)) = false := by simp; omega
  clear hi0 hz0 hz1 hz2
  go_enter Tryz.func100, Tryz.ntmps100
  go_wp2_with (first
    | (go_at_call 113; ((with_reducible refine (HMUL.out _).mono ?_); rintro e w2 ⟨rfl, hw⟩; rw [hw]))
    | (at_make; refine wpList_make_full _ rfl _ _ 35 rfl w.heap.size 3 i0 (.int .i64 0) 1 Tryz.underlying35 HI0.out HZ0.out HZ1.out _ _ _ _ n rfl rfl rfl rfl (by rw [HZ2.out]; omega) (by unfold maxLen; omega) (Nat.le_refl _) ?_))
  intro w1 hown hgr
  have hb1 : Below w.heap.size w w1 := (Below.refl _ _).grown hgr (Nat.le_refl _) (fun k hk => by cases hk)
  obtain ⟨cur, hg0, hcl⟩ : ∃ cur : List Value, w1.heap[w.heap.size]? = some (.cells cur.toArray 3 (0, 0)) ∧ cur.length = n := by
    rcases hown.2 with ⟨e, _⟩ | ⟨g', cap', cur, e, _, hg, _, _, hsz, _⟩
    · cases e
    · injection e with e1 _ e3
      injection e1 with e1
      injection e1 with e1
      subst e1 e3
      exact ⟨cur.toList, hg, by simpa using hsz⟩
  have HG := Lib.hid hg0
  have HCL := Lib.hid hcl
  have hx1 := below_cell hb1 hx
  have HNW := Lib.hid (fun j v (h : ([Value.int .i64 x] : List Value)[j]? = some v) => show w1.cell? ((⟨gx, 0, none⟩ : Addr).add j) = some v by
    match j, h with
    | 0, h => simp at h; subst h; exact hx1
    | j + 1, h => simp at h)
  have H1 : Hid (∀ v ∈ ([.int .i64 x] : List Value), v.oneCell' = true) := Lib.hid (by intro v hv; simp at hv; subst hv; rfl)
  have hmin : Nat.min 1 n = 1 := Nat.min_eq_left h1
  clear hg0 hcl hown hgr
  go_wp2_with (refine wpList_copyS rfl (.tmp 31) (.tmp 32) 35 35 rfl 3 1 Tryz.underlying35 HSZ.out w.heap.size 0 n n ⟨gx, 0, none⟩ 1 cx rfl rfl cur 3 HG.out [.int .i64 x] (by rw [hmin]; rfl) HNW.out (by have := HCL.out; simp; omega) H1.out ?_)
  intro w3 HW3
  have hA := setRow_at HG.out HW3.out
  have HL0 := Lib.hid (show (splice cur 0 [.int .i64 x]).length = n ∧ (splice cur 0 [.int .i64 x]).take 1 = List.replicate 1 (.int .i64 x) by
    have := HCL.out
    refine ⟨by rw [length_splice _ _ _ (by simp; omega)]; exact this, ?_⟩
    simp [splice])
  obtain ⟨g, hgd⟩ : ∃ g, g = w.heap.size := ⟨_, rfl⟩
  have hg1 := hA.1
  have hf1 : Fr [g] w1 w3 := by rw [hgd]; exact hA.2
  rw [← hgd] at hg1
  rw [← hgd]
  have hgw : g = w.heap.size := hgd
  have HGW := Lib.hid hgw
  clear hA HW3 hgd hgw hx1 HNW HG
  go_wp2_with fail
  go_loopw [8] (fun k wr => ∃ (m : Nat) (L : List Value), k = .int .i64 m ∧ 1 ≤ m ∧ m ≤ n ∧ wr.heap[g]? = some (.cells L.toArray 3 (0, 0)) ∧ L.length = n ∧ L.take m = List.replicate m (.int .i64 x) ∧ Fr [g] w1 wr) (fun k _ => n - (intOf k).toNat)
  case atStart => exact ⟨1, _, rfl, Nat.le_refl _, h1, hg1, HL0.out.1, HL0.out.2, hf1⟩
  case round =>
    clear hg1 hf1
    obtain ⟨m, L, rfl, hm1, hmn, hg0, hL0, hT0, hf⟩ := hrel
    have HGL := Lib.hid hg0
    have HLL := Lib.hid hL0
    have HLT := Lib.hid hT0
    clear hg0 hL0 hT0
    by_cases hlt : m < n
    · have hne : ¬ n = m := by omega
      have hne' : ¬ m = n := by omega
      obtain ⟨q, hq⟩ : ∃ q, Nat.min m (n - m) = q := ⟨_, rfl⟩
      have hq1 : q ≤ m := by rw [← hq]; exact Nat.min_le_left _ _
      have hq2 : m + q ≤ n := by have : q ≤ n - m := by rw [← hq]; exact Nat.min_le_right _ _
                                 omega
      have hq0 : 1 ≤ q := by rw [← hq]; exact Nat.le_min.2 ⟨hm1, by omega⟩
      have HQ := Lib.hid hq
      obtain ⟨cs, hcs⟩ : ∃ cs, cs = List.replicate q (Value.int .i64 x) := ⟨_, rfl⟩
      have HCN := Lib.hid (show cs.length = Nat.min m (n - m) * 1 by rw [hcs, hq]; simp)
      have HSR := Lib.hid (fun j v (h : cs[j]? = some v) => show wr.cell? ((⟨g, 0, none⟩ : Addr).add j) = some v from row_cells HGL.out 0 j v (by
        rw [hcs, List.getElem?_replicate] at h
        split at h
        · rename_i hjq
          have ht := congrArg (fun l : List Value => l[j]?) HLT.out
          simp only [List.getElem?_take, List.getElem?_replicate] at ht
          rw [if_pos (by omega), if_pos (by omega)] at ht
          rw [List.drop_zero, ht]; exact h
        · cases h))
      have HFI := Lib.hid (show m + cs.length ≤ L.length by rw [hcs, HLL.out]; simp; exact hq2)
      have HC1 := Lib.hid (show ∀ v ∈ cs, v.oneCell' = true by rw [hcs]; intro v hv; rw [List.eq_of_mem_replicate hv]; rfl)
      have HCS := Lib.hid hcs
      have hsum : IntKind.i64.wrap ((m : Int) + (q : Int)) = ((m + q : Nat) : Int) := by rw [IntWalk.i64_in _ (by omega)]; omega
      clear hq hcs
      go_wp2_with fail
      go_region_held3 (fun _ => True) (exact trivial) (first | (refine step_copyS rfl (.tmp 41) (.tmp 44) 35 35 rfl 3 1 Tryz.underlying35 HSZ.out g m (n - m) (n - m) ⟨g, 0, none⟩ m n rfl rfl L 3 HGL.out cs HCN.out HSR.out HFI.out HC1.out ?_; intro w4 HW4; rw [HQ.out]))
      have hA := setRow_at (w := wr.drew) HGL.out HW4.out
      have hg4 := Lib.hid hA.1
      have hf4 : Fr [g] w1 w4 := hf.drew.trans hA.2
      have hl4 := Lib.hid (show (splice L m cs).length = n by rw [length_splice _ _ _ HFI.out]; exact HLL.out)
      have ht4 := Lib.hid (show (splice L m cs).take (m + q) = List.replicate (m + q) (Value.int .i64 x) by
        unfold splice
        rw [HLT.out, HCS.out, ← List.append_assoc, List.replicate_append_replicate, List.take_append, List.length_replicate, Nat.sub_self, List.take_zero, List.append_nil, List.take_of_length_le (by simp)])
      clear hA HW4 hf hsum
      go_wp2_with fail
      go_roundw
      case rel => exact ⟨m + q, _, by go_num, by omega, hq2, hg4.out, hl4.out, ht4.out, hf4⟩
      case measure => simp [intOf]; omega
    · have hmn2 : m = n := by omega
      subst hmn2
      have hfin : RetInts (List.replicate m x) w (.returned (.slice (some ⟨g, 0, none⟩) m m)) wr := by
        refine ⟨_, rfl, ⟨by simp, Or.inr ⟨g, m, L.toArray, by simp, by rw [HGW.out]; exact Nat.le_refl _, HGL.out, by simp, by unfold maxLen; omega, by simpa using HLL.out, ?_⟩⟩, ?_⟩
        · have := HLT.out
          simp only [List.length_replicate, Nat.mul_one, List.map_replicate]
          exact this
        · exact below_fr hb1 hf (fun i hi => by simp only [List.mem_singleton] at hi; rw [hi, HGW.out]; exact Nat.le_refl _)
      have HF := Lib.hid hfin
      clear hfin
      go_wp2_with fail
      go_ret
      exact HF.out
end Go.Proofs.YtgoinmdnpaknpaaGreat
