/- ReadCode: the program's top, and the contracts of both sides. -/
import Derived.Test.YtenpekohbedehaaRdM
set_option linter.unusedVariables false
set_option linter.unusedSimpArgs false
set_option maxRecDepth 100000
namespace Go.Proofs.Ytenpekohbedehaa
open Go.RowKit
attribute [local irreducible] wpList
set_option maxHeartbeats 4000000 in
theorem implReadCodeO (w : World) (s : ByteArray) (x : Int) (hs : s.size ≤ maxLen) (hx : I64 x) (x0 x1 : Int) (s2 : List Int) (s3 : List Ins) (s4 : List Row) (i : Int) (b : Bool) (hz : rcR s x = ((x0, x1, s2, s3, s4), i, b)) :
    Calls Try.prog 9 #[.string s, .int .i64 x] w (RetCO x0 x1 s2 s3 s4 i b w) := by
  have HZ := Lib.hid hz
  clear hz
  go_enter Try.func9, Try.ntmps9
  go_wp2_with fail
  refine (implReadCode _ s x hs hx).mono ?_
  rintro e w1 h
  obtain ⟨A2, n2, c2, A3, n3, c3, A4, n4, c4, F2, F3, F4, rfl, o2, o3, o4, nd, hF, hb'⟩ := h.toO HZ.out
  have HZ1 := Lib.hid (show CdB w1 w.heap.size 0 0 (.slice none 0 0) (.slice none 0 0) (.slice none 0 0) from below_at hb' (by simp) (alloc_new' rfl))
  have hb0 : Below w.heap.size w w1 := below_then (show Below w.heap.size w _ by exact belA) hb'
  obtain ⟨z0, z1, z2, z3, z4⟩ := HZ1.out.cells
  have zf := blk_frozen HZ1.out
  have hRa : w.heap.size < w1.heap.size := blk_size HZ1.out
  have O2 := Lib.hid o2
  have O3 := Lib.hid o3
  have O4 := Lib.hid o4
  have ND := Lib.hid nd
  have HF := Lib.hid (show ∀ k, k ∈ F2 ++ (F3 ++ F4) → w.heap.size < k from fun k hk => by have := hF k hk; simp at this; omega)
  clear o2 o3 o4 nd hF h hb'
  go_wp2_with fail
  obtain ⟨f0, f1, f2, f3, f4⟩ := (HZ1.out.all (n0 := x0) (n1 := x1) (v2 := .slice A2 n2 c2) (v3 := .slice A3 n3 c3) (v4 := .slice A4 n4 c4)).cells
  have hfr : Fr [w.heap.size] w1 (((((w1.setCell ⟨w.heap.size, 0, none⟩ (.int .i64 x0)).setCell ⟨w.heap.size, 1, none⟩ (.int .i64 x1)).setCell ⟨w.heap.size, 2, none⟩ (.slice A2 n2 c2)).setCell ⟨w.heap.size, 3, none⟩ (.slice A3 n3 c3)).setCell ⟨w.heap.size, 4, none⟩ (.slice A4 n4 c4)) := by exact frcA
  have hap : ∀ k, k ∈ F2 ++ (F3 ++ F4) → k ∉ [w.heap.size] := fun k hk h => by have := HF.out k hk; simp at h; omega
  refine bodyPost_ret (v := .tuple #[.agg #[.int .i64 x0, .int .i64 x1, .slice A2 n2 c2, .slice A3 n3 c3, .slice A4 n4 c4], .int .i64 i, .bool b]) (by simp [results, Try.results9, go_sem, f0, f1, f2, f3, f4]) rfl ?_
  exact ⟨A2, n2, c2, A3, n3, c3, A4, n4, c4, F2, F3, F4, rfl, O2.out.fr hfr (fun k hk => hap k (List.mem_append_left _ hk)), O3.out.fr hfr (fun k hk => hap k (List.mem_append_right _ (List.mem_append_left _ hk))), O4.out.fr hfr (fun k hk => hap k (List.mem_append_right _ (List.mem_append_right _ hk))), ND.out, fun k hk => by have := HF.out k hk; omega, below_fr hb0 hfr (fun k hk => by simp at hk; omega)⟩
theorem rc_eq {r : Code × Int × Bool} {x0 x1 : Int} {s2 : List Int} {s3 : List Ins} {s4 : List Row} {i : Int} {b : Bool} (hz : r.1 = (x0, x1, s2, s3, s4)) (hi : r.2.1 = i) (hb : r.2.2 = b) : r = ((x0, x1, s2, s3, s4), i, b) := by rw [← hz, ← hi, ← hb]
theorem implReadCodeC (w : World) (s : ByteArray) (x : Int) (hs : s.size ≤ maxLen) (hx : I64 x) (x0 x1 : Int) (s2 : List Int) (s3 : List Ins) (s4 : List Row) (hz : (rcR s x).1 = (x0, x1, s2, s3, s4)) (i : Int) (hi : (rcR s x).2.1 = i) (b : Bool) (hb : (rcR s x).2.2 = b) :
    Calls Try.prog 9 #[.string s, .int .i64 x] w (RetCO x0 x1 s2 s3 s4 i b w) := implReadCodeO w s x hs hx x0 x1 s2 s3 s4 i b (rc_eq hz hi hb)
theorem specReadCodeC (w : World) (s : ByteArray) (x : Int) (hs : s.size ≤ maxLen) (hx : I64 x) (x0 x1 : Int) (s2 : List Int) (s3 : List Ins) (s4 : List Row) (hz : (rcR s x).1 = (x0, x1, s2, s3, s4)) (i : Int) (hi : (rcR s x).2.1 = i) (b : Bool) (hb : (rcR s x).2.2 = b) :
    Calls Try.prog 8 #[.string s, .int .i64 x] w (RetCS x0 x1 s2 s3 s4 i b w) := (specReadCode w s x hs hx x0 x1 s2 s3 s4 i b (rc_eq hz hi hb)).mono fun _ _ h => h.toS
end Go.Proofs.Ytenpekohbedehaa
