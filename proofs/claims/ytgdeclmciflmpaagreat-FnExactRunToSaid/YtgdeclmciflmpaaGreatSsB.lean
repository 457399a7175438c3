/- Several texts in one: StepS5, StepS6. -/
import Derived.Test.YtgdeclmciflmpaaGreatSsA

/- The reference's plain instructions: walks. Printed by steps5gen.py. -/
set_option linter.unusedVariables false
set_option linter.unusedSimpArgs false
set_option maxRecDepth 100000
namespace Go.Proofs.YtgdeclmciflmpaaGreat
open Go.RowKit
attribute [local irreducible] wpList
/-- A bool told; the machine as told. -/
def RetT (C : Cfg) (vf : Value) (s : MS) (w : World) (e : Ending) (w' : World) : Prop := e = .returned (.bool true) ∧ MM C w' vf s
set_option maxHeartbeats 4000000 in
theorem specPlain1 (C : Cfg) (w : World) (g n c : Nat) (s : MS) (f : Frame) (rest : List Frame) (pb : Nat) (hfs : s.fs = f :: rest) (hn : n = s.fs.length) (h : MM C w (.slice (some ⟨g, 0, none⟩) n c) s) (hj : s.fs.reverse[n - 1]? = some f) (hn0 : 0 < n) (hn1 : n ≤ 1000000) (hnc : n ≤ c) (hcm : c ≤ 9223372036854775807) (hpb : f.2.2.1 = (pb : Int)) (hpb6 : pb ≤ 1000000) (v : Int) (hv : I64 v) (hp : (fPile f).length ≤ 1000000) :
    Calls Tryz.prog 69 #[.pointer (some ⟨C.M, 0, none⟩), .agg #[.int .i64 1, .int .i64 v]] w (RetT C (.slice (some ⟨g, 0, none⟩) n c) ({ s with fs := fGo f ((pb : Int) + 1) (fPile f ++ [v]) :: rest }) w) := by
  have HH := Lib.hid h
  have HJ := Lib.hid hj
  have HN := Lib.hid hn
  have HFS := Lib.hid hfs
  have HPB := Lib.hid hpb
  clear h hj hn hfs hpb
  go_enter Tryz.func69, Tryz.ntmps69
  go_wp2_with fail
  obtain ⟨W0, hW0⟩ : ∃ W0, W0 = w.alloc (.cells #[.int .i64 1, .int .i64 v] 84) := ⟨_, rfl⟩
  have hbW0 : Below w.heap.size w W0 := by rw [hW0]; exact belA
  have x0 : W0.cell? ⟨w.heap.size, 0, none⟩ = some (.int .i64 1) := by rw [hW0]; simp [go_sem]
  have x1 : W0.cell? ⟨w.heap.size, 1, none⟩ = some (.int .i64 v) := by rw [hW0]; simp [go_sem]
  have hzX : w.heap.size < W0.heap.size := by rw [hW0]; simp
  have hM0 := HH.out.keep hbW0
  rw [← hW0]
  refine (specTop C W0 g n c s hM0 hn0 hn1 hnc hcm).mono ?_
  rintro e W ⟨rfl, kt, hWt⟩
  have hbT : Below W0.heap.size W0 W := by rw [hWt]; exact belA
  have H1 := Lib.hid (hM0.keep hbT)
  have b0 := below_cell hbT x0
  have b1 := below_cell hbT x1
  have hzT := hbT.size
  have hbW := below_tr hbW0 (hbT.mono (Nat.le_of_lt hzX))
  have hzW : w.heap.size < W.heap.size := by omega
  clear hW0 hWt hM0 x0 x1 hbT hzX hzT hbW0
  go_wp2_with fail
  refine (specPush C W g n c s f v hv H1.out HJ.out hn0 hn1 hnc hcm hp).mono ?_
  rintro e w5 ⟨rfl, h5⟩
  have hj5 := MS.put_get (f := fGo f f.2.2.1 (fPile f ++ [v])) HJ.out
  have H5 := Lib.hid h5
  have HJ5 := Lib.hid hj5
  clear h5 hj5
  go_wp2_with fail
  refine (specTop C w5 g n c _ H5.out hn0 hn1 hnc hcm).mono ?_
  rintro e w6 ⟨rfl, k6, hw6⟩
  have h5 := H5.out.keep (w' := w6) (by rw [hw6]; exact belA)
  clear hw6
  obtain ⟨_, _, _, _, _, _, _, _, ho⟩ := h5.opg HJ5.out
  have c2 : w6.cell? ⟨g, (n - 1) * 11 + 2, none⟩ = some (.int .i64 pb) := by rw [← HPB.out]; exact ho.fv.c2
  have fz2 := ho.fv.fz ((n - 1) * 11 + 2)
  have hg6 := ho.fv.lt
  have h6 := h5.pAt HJ5.out (a := (pb : Int) + 1) (by unfold I64; omega)
  rw [MS.put_put, MS.put_top HFS.out HN.out] at h6
  have h7 : MM C _ _ ({ s with fs := fGo f ((pb : Int) + 1) (fPile f ++ [v]) :: rest }) := h6
  have H7 := Lib.hid h7
  clear ho h6 h7 h5
  go_wp2_with fail
  go_ret
  exact ⟨rfl, H7.out⟩
set_option maxHeartbeats 4000000 in
theorem specPlain9 (C : Cfg) (w : World) (g n c : Nat) (s : MS) (f : Frame) (rest : List Frame) (pb : Nat) (hfs : s.fs = f :: rest) (hn : n = s.fs.length) (h : MM C w (.slice (some ⟨g, 0, none⟩) n c) s) (hj : s.fs.reverse[n - 1]? = some f) (hn0 : 0 < n) (hn1 : n ≤ 1000000) (hnc : n ≤ c) (hcm : c ≤ 9223372036854775807) (hpb : f.2.2.1 = (pb : Int)) (hpb6 : pb ≤ 1000000) (v : Int) (h0 : 0 < (fPile f).length) (hp : (fPile f).length ≤ 1000000) :
    Calls Tryz.prog 69 #[.pointer (some ⟨C.M, 0, none⟩), .agg #[.int .i64 9, .int .i64 v]] w (RetT C (.slice (some ⟨g, 0, none⟩) n c) ({ s with fs := fGo f ((pb : Int) + 1) (fPile f).dropLast :: rest }) w) := by
  have HH := Lib.hid h
  have HJ := Lib.hid hj
  have HN := Lib.hid hn
  have HFS := Lib.hid hfs
  have HPB := Lib.hid hpb
  clear h hj hn hfs hpb
  go_enter Tryz.func69, Tryz.ntmps69
  go_wp2_with fail
  obtain ⟨W0, hW0⟩ : ∃ W0, W0 = w.alloc (.cells #[.int .i64 9, .int .i64 v] 84) := ⟨_, rfl⟩
  have hbW0 : Below w.heap.size w W0 := by rw [hW0]; exact belA
  have x0 : W0.cell? ⟨w.heap.size, 0, none⟩ = some (.int .i64 9) := by rw [hW0]; simp [go_sem]
  have x1 : W0.cell? ⟨w.heap.size, 1, none⟩ = some (.int .i64 v) := by rw [hW0]; simp [go_sem]
  have hzX : w.heap.size < W0.heap.size := by rw [hW0]; simp
  have hM0 := HH.out.keep hbW0
  rw [← hW0]
  refine (specTop C W0 g n c s hM0 hn0 hn1 hnc hcm).mono ?_
  rintro e W ⟨rfl, kt, hWt⟩
  have hbT : Below W0.heap.size W0 W := by rw [hWt]; exact belA
  have H1 := Lib.hid (hM0.keep hbT)
  have b0 := below_cell hbT x0
  have b1 := below_cell hbT x1
  have hzT := hbT.size
  have hbW := below_tr hbW0 (hbT.mono (Nat.le_of_lt hzX))
  have hzW : w.heap.size < W.heap.size := by omega
  clear hW0 hWt hM0 x0 x1 hbT hzX hzT hbW0
  go_wp2_with fail
  refine (specPop C W g n c s f H1.out HJ.out hn0 hn1 hnc hcm h0 hp).mono ?_
  rintro e w5 ⟨rfl, k4, v4, hw4, h5⟩
  clear hw4
  have hj5 := MS.put_get (f := fGo f f.2.2.1 (fPile f).dropLast) HJ.out
  have H5 := Lib.hid h5
  have HJ5 := Lib.hid hj5
  clear h5 hj5
  go_wp2_with fail
  refine (specTop C w5 g n c _ H5.out hn0 hn1 hnc hcm).mono ?_
  rintro e w6 ⟨rfl, k6, hw6⟩
  have h5 := H5.out.keep (w' := w6) (by rw [hw6]; exact belA)
  clear hw6
  obtain ⟨_, _, _, _, _, _, _, _, ho⟩ := h5.opg HJ5.out
  have c2 : w6.cell? ⟨g, (n - 1) * 11 + 2, none⟩ = some (.int .i64 pb) := by rw [← HPB.out]; exact ho.fv.c2
  have fz2 := ho.fv.fz ((n - 1) * 11 + 2)
  have hg6 := ho.fv.lt
  have h6 := h5.pAt HJ5.out (a := (pb : Int) + 1) (by unfold I64; omega)
  rw [MS.put_put, MS.put_top HFS.out HN.out] at h6
  have h7 : MM C _ _ ({ s with fs := fGo f ((pb : Int) + 1) (fPile f).dropLast :: rest }) := h6
  have H7 := Lib.hid h7
  clear ho h6 h7 h5
  go_wp2_with fail
  go_ret
  exact ⟨rfl, H7.out⟩
set_option maxHeartbeats 4000000 in
theorem specPlain15 (C : Cfg) (w : World) (g n c : Nat) (s : MS) (f : Frame) (rest : List Frame) (pb : Nat) (hfs : s.fs = f :: rest) (hn : n = s.fs.length) (h : MM C w (.slice (some ⟨g, 0, none⟩) n c) s) (hj : s.fs.reverse[n - 1]? = some f) (hn0 : 0 < n) (hn1 : n ≤ 1000000) (hnc : n ≤ c) (hcm : c ≤ 9223372036854775807) (hpb : f.2.2.1 = (pb : Int)) (hpb6 : pb ≤ 1000000) (v : Int) (hl : I64 (lastN (fPile f))) (h0 : 0 < (fPile f).length) (hp : (fPile f).length ≤ 1000000) :
    Calls Tryz.prog 69 #[.pointer (some ⟨C.M, 0, none⟩), .agg #[.int .i64 15, .int .i64 v]] w (RetT C (.slice (some ⟨g, 0, none⟩) n c) ({ s with fs := fRes (fGo f ((pb : Int) + 1) (fPile f).dropLast) (lastN (fPile f)) :: rest }) w) := by
  have HH := Lib.hid h
  have HJ := Lib.hid hj
  have HN := Lib.hid hn
  have HFS := Lib.hid hfs
  have HPB := Lib.hid hpb
  clear h hj hn hfs hpb
  go_enter Tryz.func69, Tryz.ntmps69
  go_wp2_with fail
  obtain ⟨W0, hW0⟩ : ∃ W0, W0 = w.alloc (.cells #[.int .i64 15, .int .i64 v] 84) := ⟨_, rfl⟩
  have hbW0 : Below w.heap.size w W0 := by rw [hW0]; exact belA
  have x0 : W0.cell? ⟨w.heap.size, 0, none⟩ = some (.int .i64 15) := by rw [hW0]; simp [go_sem]
  have x1 : W0.cell? ⟨w.heap.size, 1, none⟩ = some (.int .i64 v) := by rw [hW0]; simp [go_sem]
  have hzX : w.heap.size < W0.heap.size := by rw [hW0]; simp
  have hM0 := HH.out.keep hbW0
  rw [← hW0]
  refine (specTop C W0 g n c s hM0 hn0 hn1 hnc hcm).mono ?_
  rintro e W ⟨rfl, kt, hWt⟩
  have hbT : Below W0.heap.size W0 W := by rw [hWt]; exact belA
  have H1 := Lib.hid (hM0.keep hbT)
  have b0 := below_cell hbT x0
  have b1 := below_cell hbT x1
  have hzT := hbT.size
  have hbW := below_tr hbW0 (hbT.mono (Nat.le_of_lt hzX))
  have hzW : w.heap.size < W.heap.size := by omega
  clear hW0 hWt hM0 x0 x1 hbT hzX hzT hbW0
  go_wp2_with fail
  refine (specPop C W g n c s f H1.out HJ.out hn0 hn1 hnc hcm h0 hp).mono ?_
  rintro e w4 ⟨rfl, k4, v4, hw4, h4⟩
  clear hw4
  have hj4 := MS.put_get (f := fGo f f.2.2.1 (fPile f).dropLast) HJ.out
  obtain ⟨_, _, _, _, _, _, _, _, ho⟩ := h4.opg hj4
  have c6 := ho.fv.c6
  have fz6 := ho.fv.fz ((n - 1) * 11 + 6)
  have hg4 := ho.fv.lt
  have h5' := h4.pRes hj4 hl
  rw [MS.put_put] at h5'
  have H5' := Lib.hid h5'
  clear ho h4 hj4 h5'
  go_upto_region 23 with fail
  obtain ⟨w5, hw5⟩ : ∃ w5, w5 = w4.setCell ⟨g, (n - 1) * 11 + 6, none⟩ (.int .i64 (lastN (fPile f))) := ⟨_, rfl⟩
  have h5 := H5'.out
  rw [← hw5] at h5 ⊢
  have hj5 := MS.put_get (f := fRes (fGo f f.2.2.1 (fPile f).dropLast) (lastN (fPile f))) HJ.out
  clear hw5 H5' c6 fz6
  have H5 := Lib.hid h5
  have HJ5 := Lib.hid hj5
  clear h5 hj5
  go_wp2_with fail
  refine (specTop C w5 g n c _ H5.out hn0 hn1 hnc hcm).mono ?_
  rintro e w6 ⟨rfl, k6, hw6⟩
  have h5 := H5.out.keep (w' := w6) (by rw [hw6]; exact belA)
  clear hw6
  obtain ⟨_, _, _, _, _, _, _, _, ho⟩ := h5.opg HJ5.out
  have c2 : w6.cell? ⟨g, (n - 1) * 11 + 2, none⟩ = some (.int .i64 pb) := by rw [← HPB.out]; exact ho.fv.c2
  have fz2 := ho.fv.fz ((n - 1) * 11 + 2)
  have hg6 := ho.fv.lt
  have h6 := h5.pAt HJ5.out (a := (pb : Int) + 1) (by unfold I64; omega)
  rw [MS.put_put, MS.put_top HFS.out HN.out] at h6
  have h7 : MM C _ _ ({ s with fs := fRes (fGo f ((pb : Int) + 1) (fPile f).dropLast) (lastN (fPile f)) :: rest }) := h6
  have H7 := Lib.hid h7
  clear ho h6 h7 h5
  go_wp2_with fail
  go_ret
  exact ⟨rfl, H7.out⟩
set_option maxHeartbeats 4000000 in
theorem specPlain5a (C : Cfg) (w : World) (g n c : Nat) (s : MS) (f : Frame) (rest : List Frame) (pb : Nat) (hfs : s.fs = f :: rest) (hn : n = s.fs.length) (h : MM C w (.slice (some ⟨g, 0, none⟩) n c) s) (hj : s.fs.reverse[n - 1]? = some f) (hn0 : 0 < n) (hn1 : n ≤ 1000000) (hnc : n ≤ c) (hcm : c ≤ 9223372036854775807) (hpb : f.2.2.1 = (pb : Int)) (hpb6 : pb ≤ 1000000) (v : Int) (hlt : s.used < C.ins.length) (y : Int) (hyy : C.ins.getD s.used 0 = y) (hy : I64 y) (hp : (fPile f).length ≤ 1000000) :
    Calls Tryz.prog 69 #[.pointer (some ⟨C.M, 0, none⟩), .agg #[.int .i64 5, .int .i64 v]] w (RetT C (.slice (some ⟨g, 0, none⟩) n c) ({ s with fs := fGo f ((pb : Int) + 1) (fPile f ++ [y]) :: rest, used := s.used + 1 }) w) := by
  have HH := Lib.hid h
  have HJ := Lib.hid hj
  have HN := Lib.hid hn
  have HFS := Lib.hid hfs
  have HPB := Lib.hid hpb
  clear h hj hn hfs hpb
  go_enter Tryz.func69, Tryz.ntmps69
  go_wp2_with fail
  obtain ⟨W0, hW0⟩ : ∃ W0, W0 = w.alloc (.cells #[.int .i64 5, .int .i64 v] 84) := ⟨_, rfl⟩
  have hbW0 : Below w.heap.size w W0 := by rw [hW0]; exact belA
  have x0 : W0.cell? ⟨w.heap.size, 0, none⟩ = some (.int .i64 5) := by rw [hW0]; simp [go_sem]
  have x1 : W0.cell? ⟨w.heap.size, 1, none⟩ = some (.int .i64 v) := by rw [hW0]; simp [go_sem]
  have hzX : w.heap.size < W0.heap.size := by rw [hW0]; simp
  have hM0 := HH.out.keep hbW0
  rw [← hW0]
  refine (specTop C W0 g n c s hM0 hn0 hn1 hnc hcm).mono ?_
  rintro e W ⟨rfl, kt, hWt⟩
  have hbT : Below W0.heap.size W0 W := by rw [hWt]; exact belA
  have H1 := Lib.hid (hM0.keep hbT)
  have b0 := below_cell hbT x0
  have b1 := below_cell hbT x1
  have hzT := hbT.size
  have hbW := below_tr hbW0 (hbT.mono (Nat.le_of_lt hzX))
  have hzW : w.heap.size < W.heap.size := by omega
  clear hW0 hWt hM0 x0 x1 hbT hzX hzT hbW0
  have hcon := fun W' (hW' : MM C W' (.slice (some ⟨g, 0, none⟩) n c) s) => specInputA C W' _ s hW' hlt
  rw [hyy] at hcon
  have HCON := Lib.hid hcon
  clear hcon hyy hlt
  go_wp2_with fail
  refine (HCON.out W H1.out).mono ?_
  rintro e w4 ⟨rfl, h4⟩
  have H4 := Lib.hid h4
  clear h4
  go_wp2_with fail
  refine (specPush C w4 g n c { s with used := s.used + 1 } f (y) hy H4.out HJ.out hn0 hn1 hnc hcm hp).mono ?_
  rintro e w5 ⟨rfl, h5⟩
  have hj5 := MS.put_get (s := { s with used := s.used + 1 }) (f := fGo f f.2.2.1 (fPile f ++ [y])) HJ.out
  have H5 := Lib.hid h5
  have HJ5 := Lib.hid hj5
  clear h5 hj5
  go_wp2_with fail
  refine (specTop C w5 g n c _ H5.out hn0 hn1 hnc hcm).mono ?_
  rintro e w6 ⟨rfl, k6, hw6⟩
  have h5 := H5.out.keep (w' := w6) (by rw [hw6]; exact belA)
  clear hw6
  obtain ⟨_, _, _, _, _, _, _, _, ho⟩ := h5.opg HJ5.out
  have c2 : w6.cell? ⟨g, (n - 1) * 11 + 2, none⟩ = some (.int .i64 pb) := by rw [← HPB.out]; exact ho.fv.c2
  have fz2 := ho.fv.fz ((n - 1) * 11 + 2)
  have hg6 := ho.fv.lt
  have h6 := h5.pAt HJ5.out (a := (pb : Int) + 1) (by unfold I64; omega)
  rw [MS.put_put, MS.put_top (s := { s with used := s.used + 1 }) HFS.out HN.out] at h6
  have h7 : MM C _ _ ({ s with fs := fGo f ((pb : Int) + 1) (fPile f ++ [y]) :: rest, used := s.used + 1 }) := h6
  have H7 := Lib.hid h7
  clear ho h6 h7 h5
  go_wp2_with fail
  go_ret
  exact ⟨rfl, H7.out⟩
set_option maxHeartbeats 4000000 in
theorem specPlain5b (C : Cfg) (w : World) (g n c : Nat) (s : MS) (f : Frame) (rest : List Frame) (pb : Nat) (hfs : s.fs = f :: rest) (hn : n = s.fs.length) (h : MM C w (.slice (some ⟨g, 0, none⟩) n c) s) (hj : s.fs.reverse[n - 1]? = some f) (hn0 : 0 < n) (hn1 : n ≤ 1000000) (hnc : n ≤ c) (hcm : c ≤ 9223372036854775807) (hpb : f.2.2.1 = (pb : Int)) (hpb6 : pb ≤ 1000000) (v : Int) (hlt : C.ins.length ≤ s.used) (hp : (fPile f).length ≤ 1000000) :
    Calls Tryz.prog 69 #[.pointer (some ⟨C.M, 0, none⟩), .agg #[.int .i64 5, .int .i64 v]] w (RetT C (.slice (some ⟨g, 0, none⟩) n c) ({ s with fs := fGo f ((pb : Int) + 1) (fPile f ++ [0]) :: rest }) w) := by
  have HH := Lib.hid h
  have HJ := Lib.hid hj
  have HN := Lib.hid hn
  have HFS := Lib.hid hfs
  have HPB := Lib.hid hpb
  clear h hj hn hfs hpb
  go_enter Tryz.func69, Tryz.ntmps69
  go_wp2_with fail
  obtain ⟨W0, hW0⟩ : ∃ W0, W0 = w.alloc (.cells #[.int .i64 5, .int .i64 v] 84) := ⟨_, rfl⟩
  have hbW0 : Below w.heap.size w W0 := by rw [hW0]; exact belA
  have x0 : W0.cell? ⟨w.heap.size, 0, none⟩ = some (.int .i64 5) := by rw [hW0]; simp [go_sem]
  have x1 : W0.cell? ⟨w.heap.size, 1, none⟩ = some (.int .i64 v) := by rw [hW0]; simp [go_sem]
  have hzX : w.heap.size < W0.heap.size := by rw [hW0]; simp
  have hM0 := HH.out.keep hbW0
  rw [← hW0]
  refine (specTop C W0 g n c s hM0 hn0 hn1 hnc hcm).mono ?_
  rintro e W ⟨rfl, kt, hWt⟩
  have hbT : Below W0.heap.size W0 W := by rw [hWt]; exact belA
  have H1 := Lib.hid (hM0.keep hbT)
  have b0 := below_cell hbT x0
  have b1 := below_cell hbT x1
  have hzT := hbT.size
  have hbW := below_tr hbW0 (hbT.mono (Nat.le_of_lt hzX))
  have hzW : w.heap.size < W.heap.size := by omega
  clear hW0 hWt hM0 x0 x1 hbT hzX hzT hbW0
  go_wp2_with fail
  refine (specInputB C W _ s H1.out hlt).mono ?_
  rintro e w4 ⟨rfl, h4⟩
  have H4 := Lib.hid h4
  clear h4
  go_wp2_with fail
  refine (specPush C w4 g n c s f 0 (by unfold I64; omega) H4.out HJ.out hn0 hn1 hnc hcm hp).mono ?_
  rintro e w5 ⟨rfl, h5⟩
  have hj5 := MS.put_get (f := fGo f f.2.2.1 (fPile f ++ [0])) HJ.out
  have H5 := Lib.hid h5
  have HJ5 := Lib.hid hj5
  clear h5 hj5
  go_wp2_with fail
  refine (specTop C w5 g n c _ H5.out hn0 hn1 hnc hcm).mono ?_
  rintro e w6 ⟨rfl, k6, hw6⟩
  have h5 := H5.out.keep (w' := w6) (by rw [hw6]; exact belA)
  clear hw6
  obtain ⟨_, _, _, _, _, _, _, _, ho⟩ := h5.opg HJ5.out
  have c2 : w6.cell? ⟨g, (n - 1) * 11 + 2, none⟩ = some (.int .i64 pb) := by rw [← HPB.out]; exact ho.fv.c2
  have fz2 := ho.fv.fz ((n - 1) * 11 + 2)
  have hg6 := ho.fv.lt
  have h6 := h5.pAt HJ5.out (a := (pb : Int) + 1) (by unfold I64; omega)
  rw [MS.put_put, MS.put_top HFS.out HN.out] at h6
  have h7 : MM C _ _ ({ s with fs := fGo f ((pb : Int) + 1) (fPile f ++ [0]) :: rest }) := h6
  have H7 := Lib.hid h7
  clear ho h6 h7 h5
  go_wp2_with fail
  go_ret
  exact ⟨rfl, H7.out⟩
set_option maxHeartbeats 4000000 in
theorem specPlain6a (C : Cfg) (w : World) (g n c : Nat) (s : MS) (f : Frame) (rest : List Frame) (pb : Nat) (hfs : s.fs = f :: rest) (hn : n = s.fs.length) (h : MM C w (.slice (some ⟨g, 0, none⟩) n c) s) (hj : s.fs.reverse[n - 1]? = some f) (hn0 : 0 < n) (hn1 : n ≤ 1000000) (hnc : n ≤ c) (hcm : c ≤ 9223372036854775807) (hpb : f.2.2.1 = (pb : Int)) (hpb6 : pb ≤ 1000000) (v : Int) (hoff : frOff f = false) (hp : (fPile f).length ≤ 1000000) :
    Calls Tryz.prog 69 #[.pointer (some ⟨C.M, 0, none⟩), .agg #[.int .i64 6, .int .i64 v]] w (RetT C (.slice (some ⟨g, 0, none⟩) n c) ({ s with fs := fGo f ((pb : Int) + 1) (fPile f ++ [0]) :: rest }) w) := by
  have HH := Lib.hid h
  have HJ := Lib.hid hj
  have HN := Lib.hid hn
  have HFS := Lib.hid hfs
  have HPB := Lib.hid hpb
  clear h hj hn hfs hpb
  go_enter Tryz.func69, Tryz.ntmps69
  go_wp2_with fail
  obtain ⟨W0, hW0⟩ : ∃ W0, W0 = w.alloc (.cells #[.int .i64 6, .int .i64 v] 84) := ⟨_, rfl⟩
  have hbW0 : Below w.heap.size w W0 := by rw [hW0]; exact belA
  have x0 : W0.cell? ⟨w.heap.size, 0, none⟩ = some (.int .i64 6) := by rw [hW0]; simp [go_sem]
  have x1 : W0.cell? ⟨w.heap.size, 1, none⟩ = some (.int .i64 v) := by rw [hW0]; simp [go_sem]
  have hzX : w.heap.size < W0.heap.size := by rw [hW0]; simp
  have hM0 := HH.out.keep hbW0
  rw [← hW0]
  refine (specTop C W0 g n c s hM0 hn0 hn1 hnc hcm).mono ?_
  rintro e W ⟨rfl, kt, hWt⟩
  have hbT : Below W0.heap.size W0 W := by rw [hWt]; exact belA
  have H1 := Lib.hid (hM0.keep hbT)
  have b0 := below_cell hbT x0
  have b1 := below_cell hbT x1
  have hzT := hbT.size
  have hbW := below_tr hbW0 (hbT.mono (Nat.le_of_lt hzX))
  have hzW : w.heap.size < W.heap.size := by omega
  clear hW0 hWt hM0 x0 x1 hbT hzX hzT hbW0
  go_wp2_with fail
  refine (specRecoverA C W g n c s f H1.out HJ.out hn0 hn1 hnc hcm hoff).mono ?_
  rintro e w4 ⟨rfl, h4⟩
  have H4 := Lib.hid h4
  clear h4
  have HJ4 := HJ
  have hvv : I64 0 := by unfold I64; omega
  go_wp2_with fail
  refine (specPush C w4 g n c s f 0 hvv H4.out HJ4.out hn0 hn1 hnc hcm hp).mono ?_
  rintro e w5 ⟨rfl, h5⟩
  have hj5 := MS.put_get (f := fGo f f.2.2.1 (fPile f ++ [0])) HJ4.out
  have H5 := Lib.hid h5
  have HJ5 := Lib.hid hj5
  clear h5 hj5
  go_wp2_with fail
  refine (specTop C w5 g n c _ H5.out hn0 hn1 hnc hcm).mono ?_
  rintro e w6 ⟨rfl, k6, hw6⟩
  have h5 := H5.out.keep (w' := w6) (by rw [hw6]; exact belA)
  clear hw6
  obtain ⟨_, _, _, _, _, _, _, _, ho⟩ := h5.opg HJ5.out
  have c2 : w6.cell? ⟨g, (n - 1) * 11 + 2, none⟩ = some (.int .i64 pb) := by rw [← HPB.out]; exact ho.fv.c2
  have fz2 := ho.fv.fz ((n - 1) * 11 + 2)
  have hg6 := ho.fv.lt
  have h6 := h5.pAt HJ5.out (a := (pb : Int) + 1) (by unfold I64; omega)
  rw [MS.put_put, MS.put_top HFS.out HN.out] at h6
  have h7 : MM C _ _ ({ s with fs := fGo f ((pb : Int) + 1) (fPile f ++ [0]) :: rest }) := h6
  have H7 := Lib.hid h7
  clear ho h6 h7 h5
  go_wp2_with fail
  go_ret
  exact ⟨rfl, H7.out⟩
set_option maxHeartbeats 4000000 in
theorem specPlain6b (C : Cfg) (w : World) (g n c : Nat) (s : MS) (f : Frame) (rest : List Frame) (pb : Nat) (hfs : s.fs = f :: rest) (hn : n = s.fs.length) (h : MM C w (.slice (some ⟨g, 0, none⟩) n c) s) (hj : s.fs.reverse[n - 1]? = some f) (hn0 : 0 < n) (hn1 : n ≤ 1000000) (hnc : n ≤ c) (hcm : c ≤ 9223372036854775807) (hpb : f.2.2.1 = (pb : Int)) (hpb6 : pb ≤ 1000000) (v : Int) (hoff : frOff f = true) (hn2 : 2 ≤ n) (b : Frame) (hb : s.fs.reverse[n - 2]? = some b) (hmd : ¬ modeOf b = 2) (hp : (fPile f).length ≤ 1000000) :
    Calls Tryz.prog 69 #[.pointer (some ⟨C.M, 0, none⟩), .agg #[.int .i64 6, .int .i64 v]] w (RetT C (.slice (some ⟨g, 0, none⟩) n c) ({ s with fs := fGo f ((pb : Int) + 1) (fPile f ++ [0]) :: rest }) w) := by
  have HH := Lib.hid h
  have HJ := Lib.hid hj
  have HN := Lib.hid hn
  have HFS := Lib.hid hfs
  have HPB := Lib.hid hpb
  clear h hj hn hfs hpb
  go_enter Tryz.func69, Tryz.ntmps69
  go_wp2_with fail
  obtain ⟨W0, hW0⟩ : ∃ W0, W0 = w.alloc (.cells #[.int .i64 6, .int .i64 v] 84) := ⟨_, rfl⟩
  have hbW0 : Below w.heap.size w W0 := by rw [hW0]; exact belA
  have x0 : W0.cell? ⟨w.heap.size, 0, none⟩ = some (.int .i64 6) := by rw [hW0]; simp [go_sem]
  have x1 : W0.cell? ⟨w.heap.size, 1, none⟩ = some (.int .i64 v) := by rw [hW0]; simp [go_sem]
  have hzX : w.heap.size < W0.heap.size := by rw [hW0]; simp
  have hM0 := HH.out.keep hbW0
  rw [← hW0]
  refine (specTop C W0 g n c s hM0 hn0 hn1 hnc hcm).mono ?_
  rintro e W ⟨rfl, kt, hWt⟩
  have hbT : Below W0.heap.size W0 W := by rw [hWt]; exact belA
  have H1 := Lib.hid (hM0.keep hbT)
  have b0 := below_cell hbT x0
  have b1 := below_cell hbT x1
  have hzT := hbT.size
  have hbW := below_tr hbW0 (hbT.mono (Nat.le_of_lt hzX))
  have hzW : w.heap.size < W.heap.size := by omega
  clear hW0 hWt hM0 x0 x1 hbT hzX hzT hbW0
  go_wp2_with fail
  refine (specRecoverB C W g n c s f H1.out HJ.out hn0 hn1 hnc hcm hoff hn2 b hb hmd).mono ?_
  rintro e w4 ⟨rfl, h4⟩
  have H4 := Lib.hid h4
  clear h4
  have HJ4 := HJ
  have hvv : I64 0 := by unfold I64; omega
  go_wp2_with fail
  refine (specPush C w4 g n c s f 0 hvv H4.out HJ4.out hn0 hn1 hnc hcm hp).mono ?_
  rintro e w5 ⟨rfl, h5⟩
  have hj5 := MS.put_get (f := fGo f f.2.2.1 (fPile f ++ [0])) HJ4.out
  have H5 := Lib.hid h5
  have HJ5 := Lib.hid hj5
  clear h5 hj5
  go_wp2_with fail
  refine (specTop C w5 g n c _ H5.out hn0 hn1 hnc hcm).mono ?_
  rintro e w6 ⟨rfl, k6, hw6⟩
  have h5 := H5.out.keep (w' := w6) (by rw [hw6]; exact belA)
  clear hw6
  obtain ⟨_, _, _, _, _, _, _, _, ho⟩ := h5.opg HJ5.out
  have c2 : w6.cell? ⟨g, (n - 1) * 11 + 2, none⟩ = some (.int .i64 pb) := by rw [← HPB.out]; exact ho.fv.c2
  have fz2 := ho.fv.fz ((n - 1) * 11 + 2)
  have hg6 := ho.fv.lt
  have h6 := h5.pAt HJ5.out (a := (pb : Int) + 1) (by unfold I64; omega)
  rw [MS.put_put, MS.put_top HFS.out HN.out] at h6
  have h7 : MM C _ _ ({ s with fs := fGo f ((pb : Int) + 1) (fPile f ++ [0]) :: rest }) := h6
  have H7 := Lib.hid h7
  clear ho h6 h7 h5
  go_wp2_with fail
  go_ret
  exact ⟨rfl, H7.out⟩
set_option maxHeartbeats 4000000 in
theorem specPlain6c (C : Cfg) (w : World) (g n c : Nat) (s : MS) (f : Frame) (rest : List Frame) (pb : Nat) (hfs : s.fs = f :: rest) (hn : n = s.fs.length) (h : MM C w (.slice (some ⟨g, 0, none⟩) n c) s) (hj : s.fs.reverse[n - 1]? = some f) (hn0 : 0 < n) (hn1 : n ≤ 1000000) (hnc : n ≤ c) (hcm : c ≤ 9223372036854775807) (hpb : f.2.2.1 = (pb : Int)) (hpb6 : pb ≤ 1000000) (v : Int) (hoff : frOff f = true) (hn2 : 2 ≤ n) (b : Frame) (hb : s.fs.reverse[n - 2]? = some b) (hmd : modeOf b = 2) (hvv : I64 (valOf b)) (hv9 : I64 (baseOf b)) (r : List Frame) (hr : rest = b :: r) (hp : (fPile f).length ≤ 1000000) :
    Calls Tryz.prog 69 #[.pointer (some ⟨C.M, 0, none⟩), .agg #[.int .i64 6, .int .i64 v]] w (RetT C (.slice (some ⟨g, 0, none⟩) n c) ({ s with fs := fGo f ((pb : Int) + 1) (fPile f ++ [valOf b]) :: fMode b (baseOf b) :: r }) w) := by
  have HH := Lib.hid h
  have HJ := Lib.hid hj
  have HN := Lib.hid hn
  have HFS := Lib.hid hfs
  have HPB := Lib.hid hpb
  clear h hj hn hfs hpb
  go_enter Tryz.func69, Tryz.ntmps69
  go_wp2_with fail
  obtain ⟨W0, hW0⟩ : ∃ W0, W0 = w.alloc (.cells #[.int .i64 6, .int .i64 v] 84) := ⟨_, rfl⟩
  have hbW0 : Below w.heap.size w W0 := by rw [hW0]; exact belA
  have x0 : W0.cell? ⟨w.heap.size, 0, none⟩ = some (.int .i64 6) := by rw [hW0]; simp [go_sem]
  have x1 : W0.cell? ⟨w.heap.size, 1, none⟩ = some (.int .i64 v) := by rw [hW0]; simp [go_sem]
  have hzX : w.heap.size < W0.heap.size := by rw [hW0]; simp
  have hM0 := HH.out.keep hbW0
  rw [← hW0]
  refine (specTop C W0 g n c s hM0 hn0 hn1 hnc hcm).mono ?_
  rintro e W ⟨rfl, kt, hWt⟩
  have hbT : Below W0.heap.size W0 W := by rw [hWt]; exact belA
  have H1 := Lib.hid (hM0.keep hbT)
  have b0 := below_cell hbT x0
  have b1 := below_cell hbT x1
  have hzT := hbT.size
  have hbW := below_tr hbW0 (hbT.mono (Nat.le_of_lt hzX))
  have hzW : w.heap.size < W.heap.size := by omega
  clear hW0 hWt hM0 x0 x1 hbT hzX hzT hbW0
  go_wp2_with fail
  refine (specRecoverC C W g n c s f H1.out HJ.out hn0 hn1 hnc hcm hoff hn2 b hb hmd hv9).mono ?_
  rintro e w4 ⟨rfl, h4⟩
  have H4 := Lib.hid h4
  clear h4
  have HJ4 := Lib.hid (show (s.put (n - 2) (fMode b (baseOf b))).fs.reverse[n - 1]? = some f by rw [MS.put_rev, List.getElem?_set_ne (by omega)]; exact HJ.out)
  go_wp2_with fail
  refine (specPush C w4 g n c (s.put (n - 2) (fMode b (baseOf b))) f (valOf b) hvv H4.out HJ4.out hn0 hn1 hnc hcm hp).mono ?_
  rintro e w5 ⟨rfl, h5⟩
  have hj5 := MS.put_get (f := fGo f f.2.2.1 (fPile f ++ [valOf b])) HJ4.out
  have H5 := Lib.hid h5
  have HJ5 := Lib.hid hj5
  clear h5 hj5
  go_wp2_with fail
  refine (specTop C w5 g n c _ H5.out hn0 hn1 hnc hcm).mono ?_
  rintro e w6 ⟨rfl, k6, hw6⟩
  have h5 := H5.out.keep (w' := w6) (by rw [hw6]; exact belA)
  clear hw6
  obtain ⟨_, _, _, _, _, _, _, _, ho⟩ := h5.opg HJ5.out
  have c2 : w6.cell? ⟨g, (n - 1) * 11 + 2, none⟩ = some (.int .i64 pb) := by rw [← HPB.out]; exact ho.fv.c2
  have fz2 := ho.fv.fz ((n - 1) * 11 + 2)
  have hg6 := ho.fv.lt
  have h6 := h5.pAt HJ5.out (a := (pb : Int) + 1) (by unfold I64; omega)
  rw [MS.put_put, MS.put_snd (hr ▸ HFS.out : s.fs = f :: b :: r) HN.out, MS.put_top (s := { s with fs := f :: fMode b (baseOf b) :: r }) rfl (by have := HN.out; rw [HFS.out, hr] at this; simpa using this)] at h6
  have h7 : MM C _ _ ({ s with fs := fGo f ((pb : Int) + 1) (fPile f ++ [valOf b]) :: fMode b (baseOf b) :: r }) := h6
  have H7 := Lib.hid h7
  clear ho h6 h7 h5
  go_wp2_with fail
  go_ret
  exact ⟨rfl, H7.out⟩
theorem specPlainF (C : Cfg) (w : World) (g n c : Nat) (s : MS) (o v : Int) (h : MM C w (.slice (some ⟨g, 0, none⟩) n c) s) (hn0 : 0 < n) (hn1 : n ≤ 1000000) (hnc : n ≤ c) (hcm : c ≤ 9223372036854775807) (h1 : ¬ o = 1) (h2 : ¬ o = 2) (h3 : ¬ o = 3) (h5 : ¬ o = 5) (h6 : ¬ o = 6) (h8 : ¬ o = 8) (h9 : ¬ o = 9) (h12 : ¬ o = 12) (h15 : ¬ o = 15) :
    Calls Tryz.prog 69 #[.pointer (some ⟨C.M, 0, none⟩), .agg #[.int .i64 o, .int .i64 v]] w (RetB false w) := by
  go_enter Tryz.func69, Tryz.ntmps69
  go_wp2_with fail
  obtain ⟨W0, hW0⟩ : ∃ W0, W0 = w.alloc (.cells #[.int .i64 o, .int .i64 v] 84) := ⟨_, rfl⟩
  have hbW0 : Below w.heap.size w W0 := by rw [hW0]; exact belA
  have x0 : W0.cell? ⟨w.heap.size, 0, none⟩ = some (.int .i64 o) := by rw [hW0]; simp [go_sem]
  have hzX : w.heap.size < W0.heap.size := by rw [hW0]; simp
  have hM0 := h.keep hbW0
  rw [← hW0]
  clear hW0
  refine (specTop C W0 g n c s hM0 hn0 hn1 hnc hcm).mono ?_
  rintro e W ⟨rfl, kt, hWt⟩
  have hbT : Below W0.heap.size W0 W := by rw [hWt]; exact belA
  have b0 := below_cell hbT x0
  have hzT := hbT.size
  have hbW := below_tr hbW0 (hbT.mono (Nat.le_of_lt hzX))
  have hzW : w.heap.size < W.heap.size := by omega
  clear hWt x0 hM0 h
  go_wp2_with fail
  go_ret
  exact RetB.mk rfl hbW
end Go.Proofs.YtgdeclmciflmpaaGreat

/- The reference's plain instructions: walks. Printed by steps5gen.py. -/
set_option linter.unusedVariables false
set_option linter.unusedSimpArgs false
set_option maxRecDepth 100000
namespace Go.Proofs.YtgdeclmciflmpaaGreat
open Go.RowKit
attribute [local irreducible] wpList
set_option maxHeartbeats 4000000 in
theorem specPlain2 (C : Cfg) (w : World) (g n c : Nat) (s : MS) (f : Frame) (rest : List Frame) (pb : Nat) (hfs : s.fs = f :: rest) (hn : n = s.fs.length) (h : MM C w (.slice (some ⟨g, 0, none⟩) n c) s) (hj : s.fs.reverse[n - 1]? = some f) (hn0 : 0 < n) (hn1 : n ≤ 1000000) (hnc : n ≤ c) (hcm : c ≤ 9223372036854775807) (hpb : f.2.2.1 = (pb : Int)) (hpb6 : pb ≤ 1000000) (k : Nat) (hk : k < f.2.2.2.2.1.length) (hp : (fPile f).length ≤ 1000000) :
    Calls Tryz.prog 69 #[.pointer (some ⟨C.M, 0, none⟩), .agg #[.int .i64 2, .int .i64 k]] w (RetT C (.slice (some ⟨g, 0, none⟩) n c) ({ s with fs := fGo f ((pb : Int) + 1) (fPile f ++ [f.2.2.2.2.1.getD k 0]) :: rest }) w) := by
  have HH := Lib.hid h
  have HJ := Lib.hid hj
  have HN := Lib.hid hn
  have HFS := Lib.hid hfs
  have HPB := Lib.hid hpb
  clear h hj hn hfs hpb
  go_enter Tryz.func69, Tryz.ntmps69
  go_wp2_with fail
  obtain ⟨W0, hW0⟩ : ∃ W0, W0 = w.alloc (.cells #[.int .i64 2, .int .i64 k] 84) := ⟨_, rfl⟩
  have hbW0 : Below w.heap.size w W0 := by rw [hW0]; exact belA
  have x0 : W0.cell? ⟨w.heap.size, 0, none⟩ = some (.int .i64 2) := by rw [hW0]; simp [go_sem]
  have x1 : W0.cell? ⟨w.heap.size, 1, none⟩ = some (.int .i64 k) := by rw [hW0]; simp [go_sem]
  have hzX : w.heap.size < W0.heap.size := by rw [hW0]; simp
  have hM0 := HH.out.keep hbW0
  rw [← hW0]
  refine (specTop C W0 g n c s hM0 hn0 hn1 hnc hcm).mono ?_
  rintro e W ⟨rfl, kt, hWt⟩
  have hbT : Below W0.heap.size W0 W := by rw [hWt]; exact belA
  have H1 := Lib.hid (hM0.keep hbT)
  have b0 := below_cell hbT x0
  have b1 := below_cell hbT x1
  have hzT := hbT.size
  have hbW := below_tr hbW0 (hbT.mono (Nat.le_of_lt hzX))
  have hzW : w.heap.size < W.heap.size := by omega
  clear hW0 hWt hM0 x0 x1 hbT hzX hzT hbW0
  obtain ⟨g4, n4, c4, r4, hn4, hc1, _, hg4, hg4g, _, hi1⟩ := H1.out.varAt HJ.out hk
  have hkn : k < n4 := by omega
  have hkI : (k : Int) < (n4 : Int) := by omega
  obtain ⟨y, hy⟩ : ∃ y, y = f.2.2.2.2.1[k]'hk := ⟨_, rfl⟩
  have HG := Lib.hid (show f.2.2.2.2.1.getD k 0 = y by rw [hy]; simp [List.getD, hk])
  rw [← hy] at hc1 hi1
  have hS := Lib.hid (show ∀ V', Below W.heap.size W V' → V'.cell? ⟨g, (n - 1) * 11 + 4, none⟩ = some (.slice (some ⟨g4, 0, none⟩) n4 c4) ∧ V'.cell? ⟨w.heap.size, 1, none⟩ = some (.int .i64 k) ∧ V'.cell? ⟨g4, k, none⟩ = some (.int .i64 y) from fun V' hV => ⟨below_cell hV r4, below_cell hV b1, below_cell hV hc1⟩)
  clear hn4 hy r4 hc1
  go_upto_region 7 with fail
  refine wp_region_noPanic ?_
  refine wp_region_cut (S := (fun V' => V'.cell? ⟨g, (n - 1) * 11 + 4, none⟩ = some (.slice (some ⟨g4, 0, none⟩) n4 c4) ∧ V'.cell? ⟨w.heap.size, 1, none⟩ = some (.int .i64 k) ∧ V'.cell? ⟨g4, k, none⟩ = some (.int .i64 y))) 9 (by kernel_rfl) (by kernel_rfl) (hS.out _ (show Below W.heap.size W _ by exact beloA)) (fun hR0 => ?_)
  simp only [headOps, List.take_succ_cons, List.take_zero]
  refine takeH 0 ?_
  refine takeH 1 ?_
  refine takeH 2 ?_
  refine takeH 3 ?_
  refine takeH 4 ?_
  refine takeH 5 ?_
  refine takeH 6 ?_
  refine takeH 7 ?_
  refine takeH 8 ?_
  refine wpAnyH_done (by kernel_rfl) ?_ _
  refine lastQ_op rfl (fun K hK => ?_)
  rw [if_pos (by rfl)]
  go_simp
  refine (specPush C _ g n c s f y hi1 (H1.out.keep (show Below W.heap.size W _ by exact beloA)) HJ.out hn0 hn1 hnc hcm hp).mono ?_
  rintro e w5 ⟨rfl, h5⟩
  refine hK _ _ ?_
  clear hK K
  refine NoPanic.normal ?_
  have hj5 := MS.put_get (f := fGo f f.2.2.1 (fPile f ++ [y])) HJ.out
  have H5 := Lib.hid h5
  have HJ5 := Lib.hid hj5
  clear h5 hj5
  go_wp2_with fail
  refine (specTop C w5 g n c _ H5.out hn0 hn1 hnc hcm).mono ?_
  rintro e w6 ⟨rfl, k6, hw6⟩
  have h5 := H5.out.keep (w' := w6) (by rw [hw6]; exact belA)
  clear hw6
  obtain ⟨_, _, _, _, _, _, _, _, ho⟩ := h5.opg HJ5.out
  have c2 : w6.cell? ⟨g, (n - 1) * 11 + 2, none⟩ = some (.int .i64 pb) := by rw [← HPB.out]; exact ho.fv.c2
  have fz2 := ho.fv.fz ((n - 1) * 11 + 2)
  have hg6 := ho.fv.lt
  have h6 := h5.pAt HJ5.out (a := (pb : Int) + 1) (by unfold I64; omega)
  rw [MS.put_put, MS.put_top HFS.out HN.out, ← HG.out] at h6
  have h7 : MM C _ _ ({ s with fs := fGo f ((pb : Int) + 1) (fPile f ++ [f.2.2.2.2.1.getD k 0]) :: rest }) := h6
  have H7 := Lib.hid h7
  clear ho h6 h7 h5
  go_wp2_with fail
  go_ret
  exact ⟨rfl, H7.out⟩
set_option maxHeartbeats 4000000 in
theorem specPlain3 (C : Cfg) (w : World) (g n c : Nat) (s : MS) (f : Frame) (rest : List Frame) (pb : Nat) (hfs : s.fs = f :: rest) (hn : n = s.fs.length) (h : MM C w (.slice (some ⟨g, 0, none⟩) n c) s) (hj : s.fs.reverse[n - 1]? = some f) (hn0 : 0 < n) (hn1 : n ≤ 1000000) (hnc : n ≤ c) (hcm : c ≤ 9223372036854775807) (hpb : f.2.2.1 = (pb : Int)) (hpb6 : pb ≤ 1000000) (k : Nat) (hk : k < f.2.2.2.2.1.length) (hl : I64 (lastN (fPile f))) (h0 : 0 < (fPile f).length) (hp : (fPile f).length ≤ 1000000) :
    Calls Tryz.prog 69 #[.pointer (some ⟨C.M, 0, none⟩), .agg #[.int .i64 3, .int .i64 k]] w (RetT C (.slice (some ⟨g, 0, none⟩) n c) ({ s with fs := fVars (fGo f ((pb : Int) + 1) (fPile f).dropLast) (f.2.2.2.2.1.set k (lastN (fPile f))) :: rest }) w) := by
  have HH := Lib.hid h
  have HJ := Lib.hid hj
  have HN := Lib.hid hn
  have HFS := Lib.hid hfs
  have HPB := Lib.hid hpb
  clear h hj hn hfs hpb
  go_enter Tryz.func69, Tryz.ntmps69
  go_wp2_with fail
  obtain ⟨W0, hW0⟩ : ∃ W0, W0 = w.alloc (.cells #[.int .i64 3, .int .i64 k] 84) := ⟨_, rfl⟩
  have hbW0 : Below w.heap.size w W0 := by rw [hW0]; exact belA
  have x0 : W0.cell? ⟨w.heap.size, 0, none⟩ = some (.int .i64 3) := by rw [hW0]; simp [go_sem]
  have x1 : W0.cell? ⟨w.heap.size, 1, none⟩ = some (.int .i64 k) := by rw [hW0]; simp [go_sem]
  have hzX : w.heap.size < W0.heap.size := by rw [hW0]; simp
  have hM0 := HH.out.keep hbW0
  rw [← hW0]
  refine (specTop C W0 g n c s hM0 hn0 hn1 hnc hcm).mono ?_
  rintro e W ⟨rfl, kt, hWt⟩
  have hbT : Below W0.heap.size W0 W := by rw [hWt]; exact belA
  have H1 := Lib.hid (hM0.keep hbT)
  have b0 := below_cell hbT x0
  have b1 := below_cell hbT x1
  have hzT := hbT.size
  have hbW := below_tr hbW0 (hbT.mono (Nat.le_of_lt hzX))
  have hzW : w.heap.size < W.heap.size := by omega
  clear hW0 hWt hM0 x0 x1 hbT hzX hzT hbW0
  obtain ⟨g4, n4, c4, r4, hn4, _, _, hg4, hg4g, _, _⟩ := H1.out.varAt HJ.out hk
  have hkn : k < n4 := by omega
  have hkI : (k : Int) < (n4 : Int) := by omega
  obtain ⟨_, _, _, _, _, _, _, _, hog⟩ := HH.out.opg HJ.out
  have hgl : g < w.heap.size := hog.fv.lt
  have hS := Lib.hid (show ∀ V', Below W.heap.size W V' → V'.cell? ⟨g, (n - 1) * 11 + 4, none⟩ = some (.slice (some ⟨g4, 0, none⟩) n4 c4) ∧ V'.cell? ⟨w.heap.size, 1, none⟩ = some (.int .i64 k) from fun V' hV => ⟨below_cell hV r4, below_cell hV b1⟩)
  clear hn4 r4 hog
  go_upto_region 9 with fail
  refine wp_region_noPanic ?_
  refine wp_region_cut (S := (fun V' => V'.cell? ⟨g, (n - 1) * 11 + 4, none⟩ = some (.slice (some ⟨g4, 0, none⟩) n4 c4) ∧ V'.cell? ⟨w.heap.size, 1, none⟩ = some (.int .i64 k))) 9 (by kernel_rfl) (by kernel_rfl) (hS.out _ (show Below W.heap.size W _ by exact beloA)) (fun hR0 => ?_)
  simp only [headOps, List.take_succ_cons, List.take_zero]
  refine takeH 0 ?_
  refine takeH 1 ?_
  refine takeH 2 ?_
  refine takeH 3 ?_
  refine takeH 4 ?_
  refine takeH 5 ?_
  refine takeH 6 ?_
  refine wpAnyH_ready (rs := [7]) (by kernel_rfl) (by simp) ?_
  refine AllReadyH.cons (i := 7) rfl (fun K hK => ?_) AllReadyH.nil
  go_simp
  refine (specPop C _ g n c s f (H1.out.keep (show Below W.heap.size W _ by exact beloA)) HJ.out hn0 hn1 hnc hcm h0 hp).mono ?_
  rintro e w1 ⟨rfl, k1, v3, hw1, h1⟩
  have hfr : Fr [g] W w1 := by rw [hw1]; exact frcA
  have hS7 : w1.cell? ⟨g, (n - 1) * 11 + 4, none⟩ = some (.slice (some ⟨g4, 0, none⟩) n4 c4) ∧ w1.cell? ⟨w.heap.size, 1, none⟩ = some (.int .i64 k) := ⟨by rw [hw1]; simp [go_sem, (hS.out W (Below.refl _ _)).1], (World.cell?_of_block (a := ⟨w.heap.size, 1, none⟩) (hfr.block w.heap.size hzW (by simp; omega))).trans (hS.out W (Below.refl _ _)).2⟩
  obtain ⟨g4', n4', c4', r4, hnx, y1, y2, y3, _, _, _⟩ := h1.varAt (MS.put_get HJ.out) (k := k) (show k < (fGo f f.2.2.1 (fPile f).dropLast).2.2.2.2.1.length from hk)
  obtain ⟨rfl, rfl, rfl⟩ : g4' = g4 ∧ n4' = n4 ∧ c4' = c4 := (by have := r4.symm.trans hS7.1; simpa using this)
  have h2 := h1.pVar (MS.put_get HJ.out) r4 hl (i := k) hk
  rw [MS.put_put] at h2
  have H2 := Lib.hid h2
  clear h2 h1 hw1 r4 hnx
  refine hK.out _ _ (hS7) (fun hR7 => ?_)
  clear hK K
  try simp only [Act.put, List.getElem_toArray, List.getElem_cons_zero, List.getElem_cons_succ, List.setIfInBounds_toArray, List.set_cons_zero, List.set_cons_succ]
  refine takeH 8 ?_
  refine wpAnyH_done (by kernel_rfl) ?_ _
  refine lastQ_op rfl (fun K hK => ?_)
  rw [if_pos (by rfl)]
  go_simp
  refine hK _ _ ?_
  clear hK K
  refine NoPanic.normal ?_
  obtain ⟨w5, hw5⟩ : ∃ w5, w5 = w1.setCell ⟨g4', k, none⟩ (.int .i64 (lastN (fPile f))) := ⟨_, rfl⟩
  have h5 := H2.out
  rw [← hw5] at h5 ⊢
  have hj5 := MS.put_get (f := fVars (fGo f f.2.2.1 (fPile f).dropLast) (f.2.2.2.2.1.set k (lastN (fPile f)))) HJ.out
  clear hw5 H2 y1 y2
  have H5 := Lib.hid h5
  have HJ5 := Lib.hid hj5
  clear h5 hj5
  go_wp2_with fail
  refine (specTop C w5 g n c _ H5.out hn0 hn1 hnc hcm).mono ?_
  rintro e w6 ⟨rfl, k6, hw6⟩
  have h5 := H5.out.keep (w' := w6) (by rw [hw6]; exact belA)
  clear hw6
  obtain ⟨_, _, _, _, _, _, _, _, ho⟩ := h5.opg HJ5.out
  have c2 : w6.cell? ⟨g, (n - 1) * 11 + 2, none⟩ = some (.int .i64 pb) := by rw [← HPB.out]; exact ho.fv.c2
  have fz2 := ho.fv.fz ((n - 1) * 11 + 2)
  have hg6 := ho.fv.lt
  have h6 := h5.pAt HJ5.out (a := (pb : Int) + 1) (by unfold I64; omega)
  rw [MS.put_put, MS.put_top HFS.out HN.out] at h6
  have h7 : MM C _ _ ({ s with fs := fVars (fGo f ((pb : Int) + 1) (fPile f).dropLast) (f.2.2.2.2.1.set k (lastN (fPile f))) :: rest }) := h6
  have H7 := Lib.hid h7
  clear ho h6 h7 h5
  go_wp2_with fail
  go_ret
  exact ⟨rfl, H7.out⟩
set_option maxHeartbeats 4000000 in
theorem specPlain8 (C : Cfg) (w : World) (g n c : Nat) (s : MS) (f : Frame) (rest : List Frame) (pb : Nat) (hfs : s.fs = f :: rest) (hn : n = s.fs.length) (h : MM C w (.slice (some ⟨g, 0, none⟩) n c) s) (hj : s.fs.reverse[n - 1]? = some f) (hn0 : 0 < n) (hn1 : n ≤ 1000000) (hnc : n ≤ c) (hcm : c ≤ 9223372036854775807) (hpb : f.2.2.1 = (pb : Int)) (hpb6 : pb ≤ 1000000) (v : Int) (hl : I64 (lastN (fPile f))) (htr : s.tr.length ≤ 4000000) (h0 : 0 < (fPile f).length) (hp : (fPile f).length ≤ 1000000) :
    Calls Tryz.prog 69 #[.pointer (some ⟨C.M, 0, none⟩), .agg #[.int .i64 8, .int .i64 v]] w (RetT C (.slice (some ⟨g, 0, none⟩) n c) ({ s with fs := fGo f ((pb : Int) + 1) (fPile f).dropLast :: rest, tr := s.tr ++ [lastN (fPile f)] }) w) := by
  have HH := Lib.hid h
  have HJ := Lib.hid hj
  have HN := Lib.hid hn
  have HFS := Lib.hid hfs
  have HPB := Lib.hid hpb
  clear h hj hn hfs hpb
  go_enter Tryz.func69, Tryz.ntmps69
  go_wp2_with fail
  obtain ⟨W0, hW0⟩ : ∃ W0, W0 = w.alloc (.cells #[.int .i64 8, .int .i64 v] 84) := ⟨_, rfl⟩
  have hbW0 : Below w.heap.size w W0 := by rw [hW0]; exact belA
  have x0 : W0.cell? ⟨w.heap.size, 0, none⟩ = some (.int .i64 8) := by rw [hW0]; simp [go_sem]
  have x1 : W0.cell? ⟨w.heap.size, 1, none⟩ = some (.int .i64 v) := by rw [hW0]; simp [go_sem]
  have hzX : w.heap.size < W0.heap.size := by rw [hW0]; simp
  have hM0 := HH.out.keep hbW0
  rw [← hW0]
  refine (specTop C W0 g n c s hM0 hn0 hn1 hnc hcm).mono ?_
  rintro e W ⟨rfl, kt, hWt⟩
  have hbT : Below W0.heap.size W0 W := by rw [hWt]; exact belA
  have H1 := Lib.hid (hM0.keep hbT)
  have b0 := below_cell hbT x0
  have b1 := below_cell hbT x1
  have hzT := hbT.size
  have hbW := below_tr hbW0 (hbT.mono (Nat.le_of_lt hzX))
  have hzW : w.heap.size < W.heap.size := by omega
  clear hW0 hWt hM0 x0 x1 hbT hzX hzT hbW0
  obtain ⟨vt, vn, mv⟩ := H1.out.mv
  have m4 := mv.m4
  have hM := mv.lt
  obtain ⟨_, _, _, _, _, _, _, _, ho⟩ := H1.out.opg HJ.out
  have gM := ho.fv.gM
  have hg := ho.fv.lt
  have hS := Lib.hid (show ∀ V', Below W.heap.size W V' → V'.cell? ⟨C.M, 4, none⟩ = some vt from fun V' hV => below_cell hV m4)
  clear mv ho m4
  go_upto_region 15 with fail
  refine wp_region_noPanic ?_
  refine wp_region_cut (S := (fun V' => V'.cell? ⟨C.M, 4, none⟩ = some vt)) 13 (by kernel_rfl) (by kernel_rfl) (hS.out _ (show Below W.heap.size W _ by exact beloA)) (fun hR0 => ?_)
  simp only [headOps, List.take_succ_cons, List.take_zero]
  refine takeH 0 ?_
  refine takeH 1 ?_
  refine takeH 2 ?_
  refine takeH 3 ?_
  refine takeH 4 ?_
  refine takeH 5 ?_
  refine takeH 6 ?_
  refine wpAnyH_ready (rs := [7]) (by kernel_rfl) (by simp) ?_
  refine AllReadyH.cons (i := 7) rfl (fun K hK => ?_) AllReadyH.nil
  go_simp
  refine (specPop C _ g n c s f (H1.out.keep (show Below W.heap.size W _ by exact beloA)) HJ.out hn0 hn1 hnc hcm h0 hp).mono ?_
  rintro e w1 ⟨rfl, k1, v3, hw1, h1⟩
  have hfr : Fr [g] W w1 := by rw [hw1]; exact frcA
  have hS7 : w1.cell? ⟨C.M, 4, none⟩ = some vt := (World.cell?_of_block (a := ⟨C.M, 4, none⟩) (hfr.block C.M (by omega) (by simp; exact fun e => gM e.symm))).trans (hS.out W (Below.refl _ _))
  have hz1 := hfr.size
  have H7 := Lib.hid h1
  clear h1 hw1
  refine hK.out _ _ (hS7) (fun hR7 => ?_)
  clear hK K
  try simp only [Act.put, List.getElem_toArray, List.getElem_cons_zero, List.getElem_cons_succ, List.setIfInBounds_toArray, List.set_cons_zero, List.set_cons_succ]
  refine wpAnyH_ready (rs := [8]) (by kernel_rfl) (by simp) ?_
  refine AllReadyH.cons (i := 8) rfl (fun K hK => ?_) AllReadyH.nil
  go_simp
  refine hK.out _ _ (below_cell (show Below w1.heap.size w1 _ by exact beloA) hS7) (fun hR8 => ?_)
  clear hK K
  try simp only [Act.put, List.getElem_toArray, List.getElem_cons_zero, List.getElem_cons_succ, List.setIfInBounds_toArray, List.set_cons_zero, List.set_cons_succ]
  refine wpAnyH_ready (rs := [9]) (by kernel_rfl) (by simp) ?_
  refine AllReadyH.cons (i := 9) rfl (fun K hK => ?_) AllReadyH.nil
  obtain ⟨VA, hVA⟩ : ∃ VA, VA = w1.alloc (.cells #[.int .i64 (lastN (fPile f))] 3) := ⟨_, rfl⟩
  have hbA : Below w1.heap.size w1 VA := by rw [hVA]; exact belA
  have hXA : VA.heap[w1.heap.size]? = some (.cells #[.int .i64 (lastN (fPile f))] 3) := by rw [hVA]; exact alloc_new' (w := w1) rfl
  have hszA : VA.heap.size = w1.heap.size + 1 := by rw [hVA]; simp
  rw [← hVA]
  clear hVA
  have hA := H7.out.keep hbA
  obtain ⟨vt', xs, r4', hxs, hng, put⟩ := hA.traced
  obtain rfl : vt' = vt := (by have := r4'.symm.trans (below_cell hbA hS7); simpa using this)
  have HPUT := Lib.hid put
  refine step_int1 (by rfl) _ _ (by rfl) vt' s.tr.length xs (by rfl) hxs w1.heap.size (lastN (fPile f)) _ (by rfl) hXA htr ?_
  intro Av nv cv wk HO HG HBK
  have kM : wk.heap[C.M]? = VA.heap[C.M]? := HG.out.block C.M (by omega) (fun e => hng e.symm)
  have hS9 : wk.cell? ⟨C.M, 4, none⟩ = some vt' := (World.cell?_of_block (a := ⟨C.M, 4, none⟩) kM).trans r4'
  have fzk : wk.frozen? ⟨C.M, 4, none⟩ = false := (by rw [World.frozen?_of_block (a := ⟨C.M, 4, none⟩) kM]; obtain ⟨_, _, mvA⟩ := hA.mv; exact mvA.fz 4)
  have hMk : C.M < wk.heap.size := (by have := HG.out.size; omega)
  clear hA put hxs hng kM hXA r4'
  refine hK.out _ _ (hS9) (fun hR9 => ?_)
  clear hK K
  try simp only [Act.put, List.getElem_toArray, List.getElem_cons_zero, List.getElem_cons_succ, List.setIfInBounds_toArray, List.set_cons_zero, List.set_cons_succ]
  refine takeH 10 ?_
  refine takeH 11 ?_
  refine takeH 12 ?_
  refine wpAnyH_done (by kernel_rfl) ?_ _
  refine lastQ_op rfl (fun K hK => ?_)
  rw [if_pos (by rfl)]
  go_simp
  refine hK _ _ ?_
  clear hK K
  refine NoPanic.normal ?_
  have h5' := HPUT.out _ wk _ hl HO.out HG.out HBK.out
  obtain ⟨w5, hw5⟩ : ∃ w5, w5 = wk.setCell ⟨C.M, 4, none⟩ (.slice Av nv cv) := ⟨_, rfl⟩
  have h5 : MM C w5 (.slice (some ⟨g, 0, none⟩) n c) { (s.put (n - 1) (fGo f f.2.2.1 (fPile f).dropLast)) with tr := s.tr ++ [lastN (fPile f)] } := by rw [hw5]; exact h5'
  rw [← hw5]
  have hj5 : ({ (s.put (n - 1) (fGo f f.2.2.1 (fPile f).dropLast)) with tr := s.tr ++ [lastN (fPile f)] } : MS).fs.reverse[n - 1]? = some (fGo f f.2.2.1 (fPile f).dropLast) := MS.put_get HJ.out
  clear hw5 h5' HO HG HBK HPUT fzk
  have H5 := Lib.hid h5
  have HJ5 := Lib.hid hj5
  clear h5 hj5
  go_wp2_with fail
  refine (specTop C w5 g n c _ H5.out hn0 hn1 hnc hcm).mono ?_
  rintro e w6 ⟨rfl, k6, hw6⟩
  have h5 := H5.out.keep (w' := w6) (by rw [hw6]; exact belA)
  clear hw6
  obtain ⟨_, _, _, _, _, _, _, _, ho⟩ := h5.opg HJ5.out
  have c2 : w6.cell? ⟨g, (n - 1) * 11 + 2, none⟩ = some (.int .i64 pb) := by rw [← HPB.out]; exact ho.fv.c2
  have fz2 := ho.fv.fz ((n - 1) * 11 + 2)
  have hg6 := ho.fv.lt
  have h6 := h5.pAt HJ5.out (a := (pb : Int) + 1) (by unfold I64; omega)
  rw [MS.put_top (s := { (s.put (n - 1) (fGo f f.2.2.1 (fPile f).dropLast)) with tr := s.tr ++ [lastN (fPile f)] }) (f := fGo f f.2.2.1 (fPile f).dropLast) (rest := rest) (congrArg MS.fs (MS.put_top (f' := fGo f f.2.2.1 (fPile f).dropLast) HFS.out HN.out)) (HN.out.trans (MS.put_len ..).symm)] at h6
  have h7 : MM C _ _ ({ s with fs := fGo f ((pb : Int) + 1) (fPile f).dropLast :: rest, tr := s.tr ++ [lastN (fPile f)] }) := h6
  have H7 := Lib.hid h7
  clear ho h6 h7 h5
  go_wp2_with fail
  go_ret
  exact ⟨rfl, H7.out⟩
set_option maxHeartbeats 4000000 in
theorem specPlain12 (C : Cfg) (w : World) (g n c : Nat) (s : MS) (f : Frame) (rest : List Frame) (pb : Nat) (hfs : s.fs = f :: rest) (hn : n = s.fs.length) (h : MM C w (.slice (some ⟨g, 0, none⟩) n c) s) (hj : s.fs.reverse[n - 1]? = some f) (hn0 : 0 < n) (hn1 : n ≤ 1000000) (hnc : n ≤ c) (hcm : c ≤ 9223372036854775807) (hpb : f.2.2.1 = (pb : Int)) (hpb6 : pb ≤ 1000000) (k : Nat) (hk : k < f.2.2.2.2.2.1.length) (hk2 : k ≤ 1000000) (hid : I64 f.1) (hno : s.notes.length ≤ 4000000) :
    Calls Tryz.prog 69 #[.pointer (some ⟨C.M, 0, none⟩), .agg #[.int .i64 12, .int .i64 k]] w (RetT C (.slice (some ⟨g, 0, none⟩) n c) ({ s with fs := fFlags (fGo f ((pb : Int) + 1) (fPile f)) (f.2.2.2.2.2.1.set k true) :: rest, notes := s.notes ++ [(1, f.1, (k : Int))] }) w) := by
  have HH := Lib.hid h
  have HJ := Lib.hid hj
  have HN := Lib.hid hn
  have HFS := Lib.hid hfs
  have HPB := Lib.hid hpb
  clear h hj hn hfs hpb
  go_enter Tryz.func69, Tryz.ntmps69
  go_wp2_with fail
  obtain ⟨W0, hW0⟩ : ∃ W0, W0 = w.alloc (.cells #[.int .i64 12, .int .i64 k] 84) := ⟨_, rfl⟩
  have hbW0 : Below w.heap.size w W0 := by rw [hW0]; exact belA
  have x0 : W0.cell? ⟨w.heap.size, 0, none⟩ = some (.int .i64 12) := by rw [hW0]; simp [go_sem]
  have x1 : W0.cell? ⟨w.heap.size, 1, none⟩ = some (.int .i64 k) := by rw [hW0]; simp [go_sem]
  have hzX : w.heap.size < W0.heap.size := by rw [hW0]; simp
  have hM0 := HH.out.keep hbW0
  rw [← hW0]
  refine (specTop C W0 g n c s hM0 hn0 hn1 hnc hcm).mono ?_
  rintro e W ⟨rfl, kt, hWt⟩
  have hbT : Below W0.heap.size W0 W := by rw [hWt]; exact belA
  have H1 := Lib.hid (hM0.keep hbT)
  have b0 := below_cell hbT x0
  have b1 := below_cell hbT x1
  have hzT := hbT.size
  have hbW := below_tr hbW0 (hbT.mono (Nat.le_of_lt hzX))
  have hzW : w.heap.size < W.heap.size := by omega
  clear hW0 hWt hM0 x0 x1 hbT hzX hzT hbW0
  obtain ⟨g5, n5, c5, r5, hn5, d1, d2, hg5, hg5g, _⟩ := H1.out.flagAt HJ.out hk
  have hkn : k < n5 := by omega
  have hkI : (k : Int) < (n5 : Int) := by omega
  obtain ⟨_, _, _, r5', _, _, _, hg5w, _, _⟩ := HH.out.flagAt HJ.out hk
  have hg5e : g5 < w.heap.size := by
    have h9 := below_cell hbW r5'
    rw [r5] at h9
    simp only [Option.some.injEq, Value.slice.injEq, Addr.mk.injEq, and_true] at h9
    rw [h9.1]; exact hg5w
  have hS := Lib.hid (show ∀ V', Below W.heap.size W V' → V'.cell? ⟨g, (n - 1) * 11 + 5, none⟩ = some (.slice (some ⟨g5, 0, none⟩) n5 c5) ∧ V'.cell? ⟨w.heap.size, 1, none⟩ = some (.int .i64 k) from fun V' hV => ⟨below_cell hV r5, below_cell hV b1⟩)
  obtain ⟨y, hy⟩ : ∃ y, W.cell? ⟨g5, k, none⟩ = some (.bool y) := ⟨_, d1⟩
  clear r5 d1 hn5 r5'
  go_upto_region 21 with fail
  refine wp_region_noPanic ?_
  refine wp_region_cut (S := (fun V' => V'.cell? ⟨g, (n - 1) * 11 + 5, none⟩ = some (.slice (some ⟨g5, 0, none⟩) n5 c5) ∧ V'.cell? ⟨w.heap.size, 1, none⟩ = some (.int .i64 k))) 7 (by kernel_rfl) (by kernel_rfl) (hS.out _ (show Below W.heap.size W _ by exact beloA)) (fun hR0 => ?_)
  simp only [headOps, List.take_succ_cons, List.take_zero]
  refine takeH 0 ?_
  refine takeH 1 ?_
  refine takeH 2 ?_
  refine takeH 3 ?_
  refine takeH 4 ?_
  refine takeH 5 ?_
  refine takeH 6 ?_
  refine wpAnyH_done (by kernel_rfl) ?_ _
  refine lastQ_op rfl (fun K hK => ?_)
  rw [if_pos (by rfl)]
  go_simp
  refine hK _ _ ?_
  clear hK K
  refine NoPanic.normal ?_
  obtain ⟨V, hV⟩ : ∃ V, V = (W.setCell ⟨g5, k, none⟩ (.bool true)).drew := ⟨_, rfl⟩
  have h3 : MM C V (.slice (some ⟨g, 0, none⟩) n c) (s.put (n - 1) (fFlags f (f.2.2.2.2.2.1.set k true))) := by rw [hV]; exact (H1.out.pFlag HJ.out (hS.out W (Below.refl _ _)).1 hk).keep (by exact beloA)
  have hfV : Fr [g5] W V := by rw [hV]; exact frcA
  have hb1 : V.cell? ⟨w.heap.size, 1, none⟩ = some (.int .i64 k) := (World.cell?_of_block (a := ⟨w.heap.size, 1, none⟩) (hfV.block w.heap.size hzW (by simp; omega))).trans (hS.out W (Below.refl _ _)).2
  have hbV : w.heap.size < V.heap.size := by have := hfV.size; omega
  have hj3 := MS.put_get (f := fFlags f (f.2.2.2.2.2.1.set k true)) HJ.out
  have H3 := Lib.hid h3
  rw [← hV]
  clear hV h3 hy d2
  go_wp2_with fail
  refine (specNote C V g n c _ (fFlags f (f.2.2.2.2.2.1.set k true)) 1 k (by unfold I64; omega) hid (by unfold I64; omega) H3.out hj3 hn0 hn1 hnc hcm hno).mono ?_
  rintro e w5 ⟨rfl, h5q, _⟩
  have h5 : MM C w5 (.slice (some ⟨g, 0, none⟩) n c) ({ (s.put (n - 1) (fFlags f (f.2.2.2.2.2.1.set k true))) with notes := s.notes ++ [(1, f.1, (k : Int))] } : MS) := h5q
  clear h5q
  have hj5 : ({ (s.put (n - 1) (fFlags f (f.2.2.2.2.2.1.set k true))) with notes := s.notes ++ [(1, f.1, (k : Int))] } : MS).fs.reverse[n - 1]? = some (fFlags f (f.2.2.2.2.2.1.set k true)) := hj3
  have H5 := Lib.hid h5
  have HJ5 := Lib.hid hj5
  clear h5 hj5
  go_wp2_with fail
  refine (specTop C w5 g n c _ H5.out hn0 hn1 hnc hcm).mono ?_
  rintro e w6 ⟨rfl, k6, hw6⟩
  have h5 := H5.out.keep (w' := w6) (by rw [hw6]; exact belA)
  clear hw6
  obtain ⟨_, _, _, _, _, _, _, _, ho⟩ := h5.opg HJ5.out
  have c2 : w6.cell? ⟨g, (n - 1) * 11 + 2, none⟩ = some (.int .i64 pb) := by rw [← HPB.out]; exact ho.fv.c2
  have fz2 := ho.fv.fz ((n - 1) * 11 + 2)
  have hg6 := ho.fv.lt
  have h6 := h5.pAt HJ5.out (a := (pb : Int) + 1) (by unfold I64; omega)
  rw [MS.put_top (s := { (s.put (n - 1) (fFlags f (f.2.2.2.2.2.1.set k true))) with notes := s.notes ++ [(1, f.1, (k : Int))] }) (f := fFlags f (f.2.2.2.2.2.1.set k true)) (rest := rest) (congrArg MS.fs (MS.put_top (f' := fFlags f (f.2.2.2.2.2.1.set k true)) HFS.out HN.out)) (HN.out.trans (MS.put_len ..).symm)] at h6
  have h7 : MM C _ _ ({ s with fs := fFlags (fGo f ((pb : Int) + 1) (fPile f)) (f.2.2.2.2.2.1.set k true) :: rest, notes := s.notes ++ [(1, f.1, (k : Int))] }) := h6
  have H7 := Lib.hid h7
  clear ho h6 h7 h5
  go_wp2_with fail
  go_ret
  exact ⟨rfl, H7.out⟩
end Go.Proofs.YtgdeclmciflmpaaGreat
