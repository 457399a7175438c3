/- Instructions read back: the reference's walk. -/
import Derived.Test.YtgoinmdnpaknpaaGreatRdG
import Derived.Test.YtgoinmdnpaknpaaGreatSized
set_option linter.unusedVariables false
set_option linter.unusedSimpArgs false
set_option maxRecDepth 100000
namespace Go.Proofs.YtgoinmdnpaknpaaGreat
open Go.RowKit
attribute [local irreducible] wpList
theorem two_cells {w : World} {b : Nat} {v0 v1 : Value} {t : TypeId} (h : w.heap[b]? = some (.cells #[v0, v1] t)) : w.cell? ⟨b, 0, none⟩ = some v0 ∧ w.cell? ⟨b, 1, none⟩ = some v1 :=
  ⟨by rw [cell_of_row _ _ _ _ _ _ h]; rfl, by rw [cell_of_row _ _ _ _ _ _ h]; rfl⟩
theorem put2_1 {w : World} {b : Nat} {v0 v1 u : Value} {t : TypeId} (h : w.heap[b]? = some (.cells #[v0, v1] t)) : (w.setCell ⟨b, 1, none⟩ u).heap[b]? = some (.cells #[v0, u] t) := by rw [heap_put h]; rfl
theorem insR_one {x0 x1 : Int} : ∀ u ∈ ([.int .i64 x0, .int .i64 x1] : List Value), u.oneCell' = true := by
  intro u hu; simp at hu; rcases hu with rfl | rfl <;> rfl
theorem Tryz.infoInsR : (Tryz.prog.info? 67).map (fun i => (i.zero, i.size, i.bytes)) = some (some (.agg #[.int .i64 0, .int .i64 0]), 2, 16) := by kernel_rfl
/-- What is told of the code that is read, where its instructions come next. -/
def InsF (s : ByteArray) (x many : Int) (ok : Bool) (l : List Ins) (x' : Int) (ok' : Bool) : Prop := ∀ a0 n0 n1 ss, Fol s a0 x ok (MI n0 n1 ss [] many) (fun c => cp6 c ([] : List Ins).length) → Fol s a0 x' ok' (fun c => n0 = c.1 ∧ n1 = c.2.1 ∧ ss = c.2.2.1 ∧ l = c.2.2.2.1) cp7
def InsG (s : ByteArray) (x many : Int) (ok : Bool) (l : List Ins) (x' : Int) (ok' : Bool) (cnt : Int) : Prop := ∀ a0 n0 n1 ss, Fol s a0 x ok (MI n0 n1 ss [] many) (fun c => cp6 c ([] : List Ins).length) → Fol s a0 x' ok' (MI n0 n1 ss l cnt) (fun c => cp6 c l.length)
def RetInS (s : ByteArray) (x0 many : Int) (ok0 : Bool) (T : TypeId) (b : Nat) (w : World) (e : Ending) (w' : World) : Prop :=
  ∃ (A : Option Addr) (n c : Nat) (l : List Ins) (x' : Int) (ok' : Bool) (F : List Nat), e = .returned (.slice A n c) ∧ I64 x' ∧ Hid (OwnSl InsR w' 67 F (.slice A n c) l) ∧ Hid (∀ k, k ∈ F → w.heap.size ≤ k) ∧ l.length ≤ 301 ∧ Hid (InsF s x0 many ok0 l x' ok') ∧ Hid (RdrB w' b T s x' ok') ∧ Fr [b] w w'
set_option maxHeartbeats 8000000 in
theorem specIns (w : World) (b : Nat) (s : ByteArray) (x0 many : Int) (ok0 : Bool) (hs : s.size ≤ maxLen) (hx : I64 x0) (hm : -1 ≤ many ∧ many ≤ 300) (h : RdrB w b 33 s x0 ok0) :
    Calls Tryz.prog 20 #[.pointer (some ⟨b, 0, none⟩), .int .i64 many] w (RetInS s x0 many ok0 33 b w) := by
  have hbl := blk_size h
  have HR0 := Lib.hid h
  obtain ⟨inf, hif, hz0, hz1, hz2⟩ := info_parts Tryz.infoInsR
  have HIF := Lib.hid hif
  have HZ0 := Lib.hid hz0
  have HZ1 := Lib.hid hz1
  have HZ2 := Lib.hid hz2
  obtain ⟨hm0, hm1⟩ := hm
  clear hif hz0 hz1 hz2 h
  go_enter Tryz.func20, Tryz.ntmps20
  go_wp2_with fail
  go_loopw [1, 5] (fun iv rv wr => ∃ (cnt x : Int) (ok : Bool) (A : Option Addr) (n c : Nat) (l : List Ins) (F : List Nat), iv = .int .i64 cnt ∧ rv = .slice A n c ∧ I64 x ∧ (-1 ≤ cnt ∧ cnt ≤ 300) ∧ (l.length : Int) ≤ 300 - cnt ∧ Hid (OwnSl InsR wr 67 F (.slice A n c) l) ∧ Hid (∀ j, j ∈ F → w.heap.size ≤ j) ∧ Hid (InsG s x0 many ok0 l x ok cnt) ∧ Hid (RdrB wr b 33 s x ok) ∧ Fr [b] w wr) (fun iv _ _ => (intOf iv).toNat)
  case atStart => exact ⟨many, x0, ok0, none, 0, 0, [], [], rfl, rfl, hx, ⟨hm0, hm1⟩, by simp; omega, Lib.hid (OwnSl.nil_ ..), Lib.hid (by simp), Lib.hid (fun _ _ _ _ h => h), HR0, Fr.refl _ _⟩
  case round =>
    clear HR0
    obtain ⟨cnt, x, ok, A, n, c, l, F, rfl, rfl, hx1, ⟨hc0, hc1⟩, hll, HO, HFF, HF, HR, hf⟩ := hrel
    obtain ⟨r0, r1, r2⟩ := HR.out.cells
    have hzw := hf.size
    have hblr : b < wr.heap.size := by omega
    by_cases hgo : 0 < cnt ∧ ok = true
    rotate_left
    · have hc : ¬ (0 < cnt) ∨ (0 < cnt ∧ ok = false) := by
        by_cases h1 : 0 < cnt
        · cases ok
          · exact Or.inr ⟨h1, rfl⟩
          · exact absurd ⟨h1, rfl⟩ hgo
        · exact Or.inl h1
      have HD := Lib.hid (show InsF s x0 many ok0 l x ok from fun a0 n0 n1 ss h => (HF.out a0 n0 n1 ss h).inssEnd (fun h1 => by
        rcases hc with h2 | ⟨_, h2⟩
        · omega
        · rw [h2] at h1; cases h1))
      clear hgo HF
      rcases hc with h1 | ⟨h1, rfl⟩
      all_goals
        go_wp2_with fail
        go_ret
        exact ⟨A, n, c, l, x, _, F, rfl, hx1, HO, HFF, by omega, HD, HR, hf⟩
    obtain ⟨hcp, rfl⟩ := hgo
    go_wp2_with fail
    refine (specNumber wr b s x true 18 (by omega) hs hx1 HR.out).mono ?_
    rintro e w2 ⟨g, x2, ok2, rfl, ⟨hg0, hg1⟩, hx2, HN2, HR2, hf2⟩
    have HF2 := Lib.hid (fun a0 n0 n1 ss h => (HF.out a0 n0 n1 ss h).op hcp HN2.out (by omega))
    have HO2 := Lib.hid (HO.out.fr hf2 (fun k hk hk2 => by have := HFF.out k hk; simp at hk2; omega))
    have hf02 : Fr [b] w w2 := Fr.trans hf hf2
    clear HF HN2 HO HR r0 r1 r2
    go_upto_region 5 with fail
    obtain ⟨W, hW⟩ : ∃ W, W = w2.alloc (.cells #[.int .i64 g, .int .i64 0] 67) := ⟨_, rfl⟩
    obtain ⟨r, hr⟩ : ∃ r, w2.heap.size = r := ⟨_, rfl⟩
    have hbW : Below w2.heap.size w2 W := by rw [hW]; exact belA
    have HB0 := Lib.hid (show W.heap[r]? = some (.cells #[.int .i64 g, .int .i64 0] 67) from by rw [hW]; exact alloc_new' hr)
    have RW := Lib.hid (HR2.out.below hbW)
    have HOW := Lib.hid (HO2.out.below hbW)
    have hzr := hf2.size
    have hbr : b < r := by omega
    have hrW : r < W.heap.size := blk_size HB0.out
    have hwr : w.heap.size ≤ r := by omega
    have hlF := Lib.hid (show ∀ j, j ∈ F → j < r from fun j hj => by have := HO2.out.lt j hj; omega)
    have hfW : Fr [b] w W := Fr.trans hf02 (Fr.of_below hbW)
    have hbWs : b < W.heap.size := by omega
    have hg64 : I64 g := by unfold I64; omega
    rw [← hW, hr]
    clear hW hr HO2 HR2 hbW
    obtain ⟨k0, k1⟩ := two_cells HB0.out
    obtain ⟨r0, r1, r2⟩ := RW.out.cells
    obtain ⟨hn, hhn⟩ : ∃ b, hasNB g = b := ⟨_, rfl⟩
    have HHN := Lib.hid hhn
    clear hhn
    have hcs : (ok2 = true ∧ hn = true) ∨ ok2 = false ∨ (ok2 = true ∧ hn = false) := by cases ok2 <;> cases hn <;> simp
    rcases hcs with ⟨rfl, rfl⟩ | rfl | ⟨rfl, rfl⟩
    focus
      go_wp2_with (go_at_call 40; ((with_reducible refine (specL5HasN _ _).mono ?_); rintro e w3 ⟨rfl, bc⟩; rw [HHN.out]))
      have b3 : Below W.heap.size W w3 := by exact beloA
      refine (specSigned w3 b s x2 true hs hx2 (RW.out.below b3)).mono ?_
      rintro e w4 ⟨z, xz, okz, rfl, iz, hxz, HN4, HR4, hf4⟩
      have t4 : Fr [b] W w4 := Fr.trans (Fr.of_below b3) hf4
      have HB4 := Lib.hid (fr_at t4 (show r ∉ [b] by simp; omega) HB0.out)
      have c41 := (two_cells HB4.out).2
      have z41 := blk_frozen HB4.out 1
      have y4 := t4.size
      have hr4 : r < w4.heap.size := by omega
      go_upto_region 7 with fail
      obtain ⟨Y, hY⟩ : ∃ Y, Y = w4.setCell ⟨r, 1, none⟩ (.int .i64 z) := ⟨_, rfl⟩
      have HBY := Lib.hid (show Y.heap[r]? = some (.cells #[.int .i64 g, .int .i64 z] 67) from by rw [hY]; exact put2_1 HB4.out)
      have RY := Lib.hid (show RdrB Y b 33 s xz okz from by rw [hY]; exact HR4.out.other (by simp; omega) _)
      have hXY : Fr [b, r] W Y := by rw [hY]; exact Fr.setCell (p := ⟨r, 1, none⟩) (t4.more (by simp)) (by simp) _
      have HFN := Lib.hid (show InsG s x0 many ok0 (l ++ [(g, z)]) xz okz (cnt - 1) from fun a0 n0 n1 ss h => (HF2.out a0 n0 n1 ss h).insN hcp HHN.out HN4.out)
      rw [← hY]
      clear hY HB4 HR4 hf4 t4 HN4 c41 z41 b3 bc y4 hr4
    rotate_left 1
    focus
      obtain ⟨z, hz⟩ : ∃ z : Int, 0 = z := ⟨_, rfl⟩
      obtain ⟨xz, hxz'⟩ : ∃ z, x2 = z := ⟨_, rfl⟩
      obtain ⟨okz, hokz⟩ : ∃ z, false = z := ⟨_, rfl⟩
      have hxz := hx2
      have iz : I64 z := by rw [← hz]; unfold I64; omega
      obtain ⟨Y, hY⟩ : ∃ Y, W = Y := ⟨_, rfl⟩
      have rz : Y.cell? ⟨b, 2, none⟩ = some (.bool false) := by rw [← hY]; exact r2
      have HBY := Lib.hid (show Y.heap[r]? = some (.cells #[.int .i64 g, .int .i64 z] 67) from by rw [← hY, ← hz]; exact HB0.out)
      have RY := Lib.hid (show RdrB Y b 33 s xz okz from by rw [← hY, ← hxz', ← hokz]; exact RW.out)
      have hXY : Fr [b, r] W Y := by rw [← hY]; exact Fr.refl _ _
      have HFN := Lib.hid (show InsG s x0 many ok0 (l ++ [(g, z)]) xz okz (cnt - 1) from fun a0 n0 n1 ss h => by rw [← hz, ← hxz', ← hokz]; exact (HF2.out a0 n0 n1 ss h).insO hcp (fun h => by cases h))
      rw [hxz'] at hxz
      rw [hY]
      clear hY hz hxz' hokz
    rotate_left 1
    focus
      go_wp2_with fail
      with_reducible refine (specL5HasN W g).mono ?_
      rintro e w3 ⟨rfl, bc⟩
      rw [HHN.out]
      obtain ⟨z, hz⟩ : ∃ z : Int, 0 = z := ⟨_, rfl⟩
      obtain ⟨xz, hxz'⟩ : ∃ z, x2 = z := ⟨_, rfl⟩
      obtain ⟨okz, hokz⟩ : ∃ z, true = z := ⟨_, rfl⟩
      have hxz := hx2
      have iz : I64 z := by rw [← hz]; unfold I64; omega
      obtain ⟨Y, hY⟩ : ∃ Y, w3 = Y := ⟨_, rfl⟩
      have b3 : Below W.heap.size W Y := by rw [← hY]; exact beloA
      have HBY := Lib.hid (show Y.heap[r]? = some (.cells #[.int .i64 g, .int .i64 z] 67) from by rw [← hz]; exact below_at b3 hrW HB0.out)
      have RY := Lib.hid (show RdrB Y b 33 s xz okz from by rw [← hxz', ← hokz]; exact RW.out.below b3)
      have hXY : Fr [b, r] W Y := Fr.of_below b3
      have HFN := Lib.hid (show InsG s x0 many ok0 (l ++ [(g, z)]) xz okz (cnt - 1) from fun a0 n0 n1 ss h => by rw [← hz, ← hxz', ← hokz]; exact (HF2.out a0 n0 n1 ss h).insO hcp (fun _ => HHN.out))
      rw [hxz'] at hxz
      rw [hY]
      clear hY hz hxz' hokz b3 bc
    rotate_left 1
    all_goals
      have HOY := Lib.hid (HOW.out.fr hXY (fun k hk hk2 => by have := HFF.out k hk; have := hlF.out k hk; simp at hk2; omega))
      have hfY : Fr [b] w Y := fr_new hfW hXY (fun k hk => by simp at hk ⊢; omega)
      have hrY : r < Y.heap.size := blk_size HBY.out
      have hbY : b < Y.heap.size := by omega
      clear k0 k1 r0 r1 r2
      obtain ⟨c0, c1⟩ := two_cells HBY.out
      clear HB0 HOW RW hXY hfW HF2 hf2 hf hf02
      go_upto_region 3 with (first
        | (at_builtin; refine wpl_own1 _ rfl _ _ 36 rfl InsR 67 inf (.agg #[.int .i64 0, .int .i64 0]) 2 16 Tryz.underlying36 HIF.out HZ0.out HZ1.out HZ2.out rfl rfl (by decide) (.slice A n c) l.length l F rfl rfl (HOY.out.below (show Below Y.heap.size Y _ by exact belA)) ⟨Y.heap.size, 0, none⟩ 1 [.int .i64 g, .int .i64 z] (g, z) [] rfl (cells_new _ _ _ (by simp)) (Ins_own _ g z hg64 iz) insR_one (fun j hj => by cases hj) (by omega) (by decide) ?_))
      intro v' w5 F' ho' hgr hF'
      obtain ⟨A', n', c', rfl, _⟩ := ho'.form
      have HO' := Lib.hid ho'
      have hbA : Below Y.heap.size Y (Y.alloc (.cells #[.int .i64 g, .int .i64 z] 67)) := by exact belA
      have HFF' := Lib.hid (show ∀ j, j ∈ F' → w.heap.size ≤ j from fun j hj => by
        rcases hF' j hj with h | h
        · exact HFF.out j h
        · rw [h]; first | omega | (simp; omega))
      have hown := HOY.out.ownB
      have hf5 : Fr [b] w w5 := fr_new hfY (Fr.trans (Fr.of_below (F := (Value.slice A n c).ownBlock.toList) hbA) (grown_fr hgr)) (fun k hk => Or.inr (HFF.out k (hown k (by simpa using hk))))
      have R5 := Lib.hid ((RY.out.below hbA).grown hgr (fun g hg => by have := HFF.out g (hown g hg); omega))
      clear ho' hgr hF' hown hbA RY c0 c1 HBY HOY
      go_wp2_with fail
      go_roundw
      case rel => exact ⟨cnt - 1, xz, okz, A', n', c', l ++ [(g, z)], F', rfl, rfl, hxz, ⟨by omega, by omega⟩, by simp only [List.length_append, List.length_singleton]; omega, HO', HFF', HFN, R5, hf5⟩
      case measure => simp [intOf]; omega
end Go.Proofs.YtgoinmdnpaknpaaGreat
