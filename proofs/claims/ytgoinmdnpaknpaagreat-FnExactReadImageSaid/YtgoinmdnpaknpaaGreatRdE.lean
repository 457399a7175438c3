/- A reader's numbers: walks of both sides. Printed by rdegen.py. -/
import Derived.Test.YtgoinmdnpaknpaaGreatRdD
import Derived.Test.YtgoinmdnpaknpaaGreatRdLeb
import Derived.Test.YtgoinmdnpaknpaaGreatBlk
import Derived.Deep.RegionHeld3
set_option linter.unusedVariables false
set_option linter.unusedSimpArgs false
set_option maxRecDepth 100000
namespace Go.Proofs.YtgoinmdnpaknpaaGreat
open Go.RowKit
attribute [local irreducible] wpList
/-- The reader in block b. -/
def RdrB (w : World) (b : Nat) (T : TypeId) (s : ByteArray) (x : Int) (ok : Bool) : Prop := w.heap[b]? = some (.cells #[.string s, .int .i64 x, .bool ok] T)
theorem RdrB.cells {w : World} {b : Nat} {T : TypeId} {s : ByteArray} {x : Int} {ok : Bool} (h : RdrB w b T s x ok) : w.cell? ⟨b, 0, none⟩ = some (.string s) ∧ w.cell? ⟨b, 1, none⟩ = some (.int .i64 x) ∧ w.cell? ⟨b, 2, none⟩ = some (.bool ok) :=
  ⟨by rw [cell_of_row _ _ _ _ _ _ h]; rfl, by rw [cell_of_row _ _ _ _ _ _ h]; rfl, by rw [cell_of_row _ _ _ _ _ _ h]; rfl⟩
theorem RdrB.below {w w' : World} {b : Nat} {T : TypeId} {s : ByteArray} {x : Int} {ok : Bool} (h : RdrB w b T s x ok) (hb : Below w.heap.size w w') : RdrB w' b T s x ok := below_at hb (blk_size h) h
theorem RdrB.put1 {w : World} {b : Nat} {T : TypeId} {s : ByteArray} {x : Int} {ok : Bool} (h : RdrB w b T s x ok) (y : Int) : RdrB (w.setCell ⟨b, 1, none⟩ (.int .i64 y)) b T s y ok := by
  unfold RdrB World.setCell
  simp only [Array.getElem?_modify, show w.heap[b]? = _ from h]
  simp
theorem RdrB.put2 {w : World} {b : Nat} {T : TypeId} {s : ByteArray} {x : Int} {ok : Bool} (h : RdrB w b T s x ok) (o : Bool) : RdrB (w.setCell ⟨b, 2, none⟩ (.bool o)) b T s x o := by
  unfold RdrB World.setCell
  simp only [Array.getElem?_modify, show w.heap[b]? = _ from h]
  simp
def RetNum (s : ByteArray) (x : Int) (ok : Bool) (lo most : Int) (T : TypeId) (b : Nat) (w : World) (e : Ending) (w' : World) : Prop :=
  ∃ (n x' : Int) (ok' : Bool), e = .returned (.int .i64 n) ∧ (lo ≤ n ∧ n ≤ most) ∧ I64 x' ∧ Hid (NumP s x ok most n x' ok') ∧ Hid (RdrB w' b T s x' ok') ∧ Fr [b] w w'
def RetSgn (s : ByteArray) (x : Int) (ok : Bool) (T : TypeId) (b : Nat) (w : World) (e : Ending) (w' : World) : Prop :=
  ∃ (n x' : Int) (ok' : Bool), e = .returned (.int .i64 n) ∧ I64 n ∧ I64 x' ∧ Hid (SgP s x ok n x' ok') ∧ Hid (RdrB w' b T s x' ok') ∧ Fr [b] w w'
theorem i64_en {s : ByteArray} {x en : Int} {ok : Bool} {P : Prop} (hs : s.size ≤ maxLen) (h1 : ok = true → 0 ≤ x ∧ x < en ∧ en ≤ (s.size : Int) ∧ P) (h2 : ok = false → en = 0) : I64 en := by
  unfold maxLen at hs; unfold I64
  cases ok
  · have := h2 rfl; omega
  · have := h1 rfl; omega
theorem i64_len {s : ByteArray} {en : Int} (hs : s.size ≤ maxLen) (h : 0 ≤ en ∧ en ≤ (s.size : Int)) : I64 en := by unfold maxLen at hs; unfold I64; omega
set_option maxHeartbeats 4000000 in
theorem implNumber (w : World) (b : Nat) (s : ByteArray) (x : Int) (ok : Bool) (hs : s.size ≤ maxLen) (hx : I64 x) (h : RdrB w b 85 s x ok) :
    Calls Tryz.prog 60 #[.pointer (some ⟨b, 0, none⟩)] w (RetNum s x ok 0 1000000 85 b w) := by
  have H := Lib.hid h
  have hlt := blk_size h
  have hS := Lib.hid (show ∀ V', Below w.heap.size w V' → V'.cell? ⟨b, 0, none⟩ = some (.string s) ∧ V'.cell? ⟨b, 1, none⟩ = some (.int .i64 x) from fun V' hV => ⟨(h.below hV).cells.1, (h.below hV).cells.2.1⟩)
  obtain ⟨k0, k1⟩ := hS.out w (Below.refl _ _)
  clear h
  go_enter Tryz.func60, Tryz.ntmps60
  go_wp2_with fail
  go_region_held3 (fun V' => V'.cell? ⟨b, 0, none⟩ = some (.string s) ∧ V'.cell? ⟨b, 1, none⟩ = some (.int .i64 x)) (exact hS.out _ (show Below w.heap.size w _ by exact beloA))
    (first | (go_at_call 26; ((with_reducible refine (implReadU s x _ hs hx).mono ?_); rintro e w5 ⟨n, en, code, ok1, rfl, hn, HA, HT, HO, b5⟩; have t5 : Below w.heap.size w w5 := (by exact beloA))))
  have R5 := Lib.hid (H.out.below t5)
  obtain ⟨c0, c1, c2⟩ := R5.out.cells
  have fz1 := blk_frozen R5.out 1
  have fz2 := blk_frozen R5.out 2
  have hl5 : b < w5.heap.size := blk_size R5.out
  have HP := Lib.hid (numP_of (n := (n : Int)) HA.out (fun a m h1 h2 h3 h4 => by obtain ⟨g1, g2, g3⟩ := HT.out a m h1 h2 h3 h4; exact ⟨g1, by rw [g2], g3⟩))
  cases ok1
  · go_wp2_with fail
    go_ret
    exact ⟨0, x, false, rfl, by omega, hx, Lib.hid (HP.out.most (by omega) (fun h1 h2 h3 => absurd (And.intro h1 (And.intro h2 h3)) (by first | (simp; done) | (simp; omega))) (fun h => by simp at h) (fun h1 h2 h3 => absurd (And.intro h1 (And.intro h2 h3)) (by first | (simp; done) | (simp; omega)))), Lib.hid (R5.out.put2 false), Fr.setCell (p := ⟨b, 2, none⟩) (Fr.of_below t5) (List.mem_singleton.2 rfl) _⟩
  by_cases hc : (n : Int) > 1000000
  · go_wp2_with fail
    go_ret
    exact ⟨0, x, false, rfl, by omega, hx, Lib.hid (HP.out.most (by omega) (fun h1 h2 h3 => absurd (And.intro h1 (And.intro h2 h3)) (by first | (simp; done) | (simp; omega))) (fun h => by simp at h) (fun h1 h2 h3 => absurd (And.intro h1 (And.intro h2 h3)) (by first | (simp; done) | (simp; omega)))), Lib.hid (R5.out.put2 false), Fr.setCell (p := ⟨b, 2, none⟩) (Fr.of_below t5) (List.mem_singleton.2 rfl) _⟩
  have hnw : IntKind.i64.wrap (n : Int) = (n : Int) := IntWalk.i64_in _ (by omega)
  go_wp2_with fail
  go_ret
  exact ⟨n, en, ok, rfl, by omega, i64_len hs (by have := HA.out (by trivial); omega), Lib.hid (HP.out.most (by omega) (fun _ _ _ => rfl) (fun h => ⟨h, rfl, rfl⟩) (fun h _ _ => h)), Lib.hid (R5.out.put1 en), Fr.setCell (p := ⟨b, 1, none⟩) (Fr.of_below t5) (List.mem_singleton.2 rfl) _⟩
set_option maxHeartbeats 4000000 in
theorem implSigned (w : World) (b : Nat) (s : ByteArray) (x : Int) (ok : Bool) (hs : s.size ≤ maxLen) (hx : I64 x) (h : RdrB w b 85 s x ok) :
    Calls Tryz.prog 62 #[.pointer (some ⟨b, 0, none⟩)] w (RetSgn s x ok 85 b w) := by
  have H := Lib.hid h
  have hlt := blk_size h
  have hS := Lib.hid (show ∀ V', Below w.heap.size w V' → V'.cell? ⟨b, 0, none⟩ = some (.string s) ∧ V'.cell? ⟨b, 1, none⟩ = some (.int .i64 x) from fun V' hV => ⟨(h.below hV).cells.1, (h.below hV).cells.2.1⟩)
  obtain ⟨k0, k1⟩ := hS.out w (Below.refl _ _)
  clear h
  go_enter Tryz.func62, Tryz.ntmps62
  go_wp2_with fail
  go_region_held3 (fun V' => V'.cell? ⟨b, 0, none⟩ = some (.string s) ∧ V'.cell? ⟨b, 1, none⟩ = some (.int .i64 x)) (exact hS.out _ (show Below w.heap.size w _ by exact beloA))
    (first | (go_at_call 84; ((with_reducible refine (implReadS s x _ hs hx).mono ?_); rintro e w5 ⟨n, en, code, ok1, rfl, hn, HA, HT, HO, b5⟩; have t5 : Below w.heap.size w w5 := (by exact beloA))))
  have R5 := Lib.hid (H.out.below t5)
  obtain ⟨c0, c1, c2⟩ := R5.out.cells
  have fz1 := blk_frozen R5.out 1
  have fz2 := blk_frozen R5.out 2
  have hl5 : b < w5.heap.size := blk_size R5.out
  have HP := Lib.hid (sgP_of HA.out HT.out)
  cases ok1
  · go_wp2_with fail
    go_ret
    exact ⟨0, x, false, rfl, by unfold I64; omega, hx, Lib.hid (HP.out.with (fun h1 h2 => absurd (And.intro h1 h2) (by simp)) (fun h => by simp at h) (fun h1 h2 => absurd (And.intro h1 h2) (by simp))), Lib.hid (R5.out.put2 false), Fr.setCell (p := ⟨b, 2, none⟩) (Fr.of_below t5) (List.mem_singleton.2 rfl) _⟩
  go_wp2_with fail
  go_ret
  exact ⟨n, en, ok, rfl, hn, i64_len hs (by have := HA.out (by trivial); omega), Lib.hid (HP.out.with (fun _ _ => rfl) (fun h => ⟨h, rfl, rfl⟩) (fun h _ => h)), Lib.hid (R5.out.put1 en), Fr.setCell (p := ⟨b, 1, none⟩) (Fr.of_below t5) (List.mem_singleton.2 rfl) _⟩
set_option maxHeartbeats 4000000 in
theorem specNumber (w : World) (b : Nat) (s : ByteArray) (x : Int) (ok : Bool) (most : Int) (hm : 0 ≤ most ∧ most ≤ 1000000) (hs : s.size ≤ maxLen) (hx : I64 x) (h : RdrB w b 33 s x ok) :
    Calls Tryz.prog 10 #[.pointer (some ⟨b, 0, none⟩), .int .i64 most] w (RetNum s x ok (-1) most 33 b w) := by
  have H := Lib.hid h
  have hlt := blk_size h
  have hS := Lib.hid (show ∀ V', Below w.heap.size w V' → V'.cell? ⟨b, 0, none⟩ = some (.string s) ∧ V'.cell? ⟨b, 1, none⟩ = some (.int .i64 x) from fun V' hV => ⟨(h.below hV).cells.1, (h.below hV).cells.2.1⟩)
  obtain ⟨k0, k1⟩ := hS.out w (Below.refl _ _)
  obtain ⟨hm0, hm1⟩ := hm
  clear h
  go_enter Tryz.func10, Tryz.ntmps10
  go_wp2_with fail
  go_region_held3 (fun V' => V'.cell? ⟨b, 0, none⟩ = some (.string s) ∧ V'.cell? ⟨b, 1, none⟩ = some (.int .i64 x)) (exact hS.out _ (show Below w.heap.size w _ by exact beloA))
    (first | (go_at_call 19; ((with_reducible refine (specReadU s x _ hs hx).mono ?_); rintro e w5 ⟨n, en, code, ok1, rfl, hn, HA, HT, HO, b5⟩; have t5 : Below w.heap.size w w5 := (by exact beloA))))
  have R5 := Lib.hid (H.out.below t5)
  obtain ⟨c0, c1, c2⟩ := R5.out.cells
  have fz1 := blk_frozen R5.out 1
  have fz2 := blk_frozen R5.out 2
  have hl5 : b < w5.heap.size := blk_size R5.out
  have HP := Lib.hid (numP_of (n := (n : Int)) HA.out (fun a m h1 h2 h3 h4 => by obtain ⟨g1, g2, g3⟩ := HT.out a m h1 h2 h3 h4; exact ⟨g1, by rw [g2], g3⟩))
  cases ok
  · go_wp2_with fail
    go_ret
    exact ⟨-1, x, false, rfl, by omega, hx, Lib.hid (HP.out.most (by omega) (fun h1 h2 h3 => absurd (And.intro h1 (And.intro h2 h3)) (by first | (simp; done) | (simp; omega))) (fun h => by simp at h) (fun h1 h2 h3 => absurd (And.intro h1 (And.intro h2 h3)) (by first | (simp; done) | (simp; omega)))), Lib.hid (R5.out.put2 false), Fr.setCell (p := ⟨b, 2, none⟩) (Fr.of_below t5) (List.mem_singleton.2 rfl) _⟩
  cases ok1
  · go_wp2_with fail
    go_ret
    exact ⟨-1, x, false, rfl, by omega, hx, Lib.hid (HP.out.most (by omega) (fun h1 h2 h3 => absurd (And.intro h1 (And.intro h2 h3)) (by first | (simp; done) | (simp; omega))) (fun h => by simp at h) (fun h1 h2 h3 => absurd (And.intro h1 (And.intro h2 h3)) (by first | (simp; done) | (simp; omega)))), Lib.hid (R5.out.put2 false), Fr.setCell (p := ⟨b, 2, none⟩) (Fr.of_below t5) (List.mem_singleton.2 rfl) _⟩
  have hmu : most % 18446744073709551616 = most := by omega
  by_cases hc : (n : Int) > most
  · go_wp2_with fail
    go_ret
    exact ⟨-1, x, false, rfl, by omega, hx, Lib.hid (HP.out.most (by omega) (fun h1 h2 h3 => absurd (And.intro h1 (And.intro h2 h3)) (by first | (simp; done) | (simp; omega))) (fun h => by simp at h) (fun h1 h2 h3 => absurd (And.intro h1 (And.intro h2 h3)) (by first | (simp; done) | (simp; omega)))), Lib.hid (R5.out.put2 false), Fr.setCell (p := ⟨b, 2, none⟩) (Fr.of_below t5) (List.mem_singleton.2 rfl) _⟩
  have hnw : IntKind.i64.wrap (n : Int) = (n : Int) := IntWalk.i64_in _ (by omega)
  go_wp2_with fail
  go_ret
  exact ⟨n, en, true, rfl, by omega, i64_len hs (by have := HA.out (by trivial); omega), Lib.hid (HP.out.most (by omega) (fun _ _ _ => rfl) (fun h => ⟨h, rfl, rfl⟩) (fun h _ _ => h)), Lib.hid (R5.out.put1 en), Fr.setCell (p := ⟨b, 1, none⟩) (Fr.of_below t5) (List.mem_singleton.2 rfl) _⟩
set_option maxHeartbeats 4000000 in
theorem specSigned (w : World) (b : Nat) (s : ByteArray) (x : Int) (ok : Bool) (hs : s.size ≤ maxLen) (hx : I64 x) (h : RdrB w b 33 s x ok) :
    Calls Tryz.prog 41 #[.pointer (some ⟨b, 0, none⟩)] w (RetSgn s x ok 33 b w) := by
  have H := Lib.hid h
  have hlt := blk_size h
  have hS := Lib.hid (show ∀ V', Below w.heap.size w V' → V'.cell? ⟨b, 0, none⟩ = some (.string s) ∧ V'.cell? ⟨b, 1, none⟩ = some (.int .i64 x) from fun V' hV => ⟨(h.below hV).cells.1, (h.below hV).cells.2.1⟩)
  obtain ⟨k0, k1⟩ := hS.out w (Below.refl _ _)
  clear h
  go_enter Tryz.func41, Tryz.ntmps41
  go_wp2_with fail
  go_region_held3 (fun V' => V'.cell? ⟨b, 0, none⟩ = some (.string s) ∧ V'.cell? ⟨b, 1, none⟩ = some (.int .i64 x)) (exact hS.out _ (show Below w.heap.size w _ by exact beloA))
    (first | (go_at_call 80; ((with_reducible refine (specReadS s x _ hs hx).mono ?_); rintro e w5 ⟨n, en, code, ok1, rfl, hn, HA, HT, HO, b5⟩; have t5 : Below w.heap.size w w5 := (by exact beloA))))
  have R5 := Lib.hid (H.out.below t5)
  obtain ⟨c0, c1, c2⟩ := R5.out.cells
  have fz1 := blk_frozen R5.out 1
  have fz2 := blk_frozen R5.out 2
  have hl5 : b < w5.heap.size := blk_size R5.out
  have HP := Lib.hid (sgP_of HA.out HT.out)
  cases ok
  · go_wp2_with fail
    go_ret
    exact ⟨0, x, false, rfl, by unfold I64; omega, hx, Lib.hid (HP.out.with (fun h1 h2 => absurd (And.intro h1 h2) (by simp)) (fun h => by simp at h) (fun h1 h2 => absurd (And.intro h1 h2) (by simp))), Lib.hid (R5.out.put2 false), Fr.setCell (p := ⟨b, 2, none⟩) (Fr.of_below t5) (List.mem_singleton.2 rfl) _⟩
  cases ok1
  · go_wp2_with fail
    go_ret
    exact ⟨0, x, false, rfl, by unfold I64; omega, hx, Lib.hid (HP.out.with (fun h1 h2 => absurd (And.intro h1 h2) (by simp)) (fun h => by simp at h) (fun h1 h2 => absurd (And.intro h1 h2) (by simp))), Lib.hid (R5.out.put2 false), Fr.setCell (p := ⟨b, 2, none⟩) (Fr.of_below t5) (List.mem_singleton.2 rfl) _⟩
  go_wp2_with fail
  go_ret
  exact ⟨n, en, true, rfl, hn, i64_len hs (by have := HA.out (by trivial); omega), Lib.hid (HP.out.with (fun _ _ => rfl) (fun h => ⟨h, rfl, rfl⟩) (fun h _ => h)), Lib.hid (R5.out.put1 en), Fr.setCell (p := ⟨b, 1, none⟩) (Fr.of_below t5) (List.mem_singleton.2 rfl) _⟩
end Go.Proofs.YtgoinmdnpaknpaaGreat
