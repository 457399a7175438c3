/- Several texts in one: StepS7, StepS8, StepS9, StepSa, StepSb. -/
import Derived.Test.YtgdeclmciflmpaaGreatSsA
import Derived.Test.YtgdeclmciflmpaaGreatStD
import Derived.Test.YtgdeclmciflmpaaGreatSsB

/- The reference's reckon and off: walks. Printed by steps7gen.py. -/
set_option linter.unusedVariables false
set_option linter.unusedSimpArgs false
set_option maxRecDepth 100000
namespace Go.Proofs.YtgdeclmciflmpaaGreat
open Go.RowKit
attribute [local irreducible] wpList
set_option maxHeartbeats 4000000 in
theorem specReckonA (C : Cfg) (w : World) (g n c : Nat) (s : MS) (f : Frame) (rest : List Frame) (o x1 y : Int) (hfs : s.fs = f :: rest) (hn : n = s.fs.length) (h : MM C w (.slice (some ⟨g, 0, none⟩) n c) s) (hj : s.fs.reverse[n - 1]? = some f) (hn0 : 0 < n) (hn1 : n ≤ 1000000) (hnc : n ≤ c) (hcm : c ≤ 9223372036854775807) (pb : Nat) (hpb : f.2.2.1 = (pb : Int)) (hpb6 : pb ≤ 1000000) (hp2 : 2 ≤ (fPile f).length) (hp : (fPile f).length ≤ 1000000) (hy : lastN (fPile f) = y) (hx1 : lastN (fPile f).dropLast = x1) (s1 : I32 y) (s2 : I32 x1) (hb : recB o y = true) (hr4 : I64 (recN o x1 y)) :
    Calls Tryz.prog 70 #[.pointer (some ⟨C.M, 0, none⟩), .int .i64 o] w (RetPut C g n c ({ s with fs := fGo f ((pb : Int) + 1) ((fPile f).dropLast.dropLast ++ [recN o x1 y]) :: rest }) w) := by
  have q1 : (fPile (fGo f f.2.2.1 (fPile f).dropLast)).length = (fPile f).length - 1 := List.length_dropLast
  have HH := Lib.hid h
  have HJ := Lib.hid hj
  have HN := Lib.hid hn
  have HFS := Lib.hid hfs
  have HPB := Lib.hid hpb
  have HY := Lib.hid hy
  have HQ := Lib.hid (show lastN (fPile (fGo f f.2.2.1 (fPile f).dropLast)) = x1 from hx1)
  clear h hj hn hfs hpb hy hx1
  go_enter Tryz.func70, Tryz.ntmps70
  go_wp2_with fail
  refine (specPop C w g n c s f HH.out HJ.out hn0 hn1 hnc hcm (by omega) hp).mono ?_
  rintro e w4 ⟨rfl, k4, v4, hw4, h4⟩
  rw [HY.out]
  have H4 := Lib.hid h4
  have hj4 := Lib.hid (MS.put_get (f := (fGo f f.2.2.1 (fPile f).dropLast)) HJ.out)
  clear hw4 h4
  go_wp2_with fail
  refine (specPop C w4 g n c _ (fGo f f.2.2.1 (fPile f).dropLast) H4.out hj4.out hn0 hn1 hnc hcm (by omega) (by omega)).mono ?_
  rintro e w5 ⟨rfl, k5, v5, hw5, h5⟩
  rw [HQ.out]
  have H5 := Lib.hid h5
  have hj5 := Lib.hid (MS.put_get (f := (fGo (fGo f f.2.2.1 (fPile f).dropLast) f.2.2.1 (fPile f).dropLast.dropLast)) hj4.out)
  clear hw5 h5
  have hl2 : (fPile (fGo (fGo f f.2.2.1 (fPile f).dropLast) f.2.2.1 (fPile f).dropLast.dropLast)).length ≤ 1000000 := by
    have : (fPile (fGo (fGo f f.2.2.1 (fPile f).dropLast) f.2.2.1 (fPile f).dropLast.dropLast)).length = (fPile f).length - 1 - 1 := by show (fPile f).dropLast.dropLast.length = _; rw [List.length_dropLast, List.length_dropLast]
    omega
  go_wp2_with fail
  refine (specL2Reckon w5 o x1 y s2 s1).mono ?_
  rintro e w6 ⟨rfl, rfl⟩
  go_wp2_with fail
  refine (specPush C w5 g n c _ (fGo (fGo f f.2.2.1 (fPile f).dropLast) f.2.2.1 (fPile f).dropLast.dropLast) (recN o x1 y) hr4 H5.out hj5.out hn0 hn1 hnc hcm hl2).mono ?_
  rintro e w6 ⟨rfl, h6⟩
  have H6 := Lib.hid h6
  have hj6 := Lib.hid (MS.put_get (f := fGo (fGo (fGo f f.2.2.1 (fPile f).dropLast) f.2.2.1 (fPile f).dropLast.dropLast) f.2.2.1 ((fPile f).dropLast.dropLast ++ [recN o x1 y])) hj5.out)
  clear h6
  go_wp2_with fail
  refine (specTop C w6 g n c _ H6.out hn0 hn1 hnc hcm).mono ?_
  rintro e w7 ⟨rfl, k7, hw7⟩
  have h7 := H6.out.keep (w' := w7) (by rw [hw7]; exact belA)
  clear hw7
  obtain ⟨_, _, _, _, _, _, _, _, ho⟩ := h7.opg hj6.out
  have c2 : w7.cell? ⟨g, (n - 1) * 11 + 2, none⟩ = some (.int .i64 pb) := by rw [← HPB.out]; exact ho.fv.c2
  have fz2 := ho.fv.fz ((n - 1) * 11 + 2)
  have hg7 := ho.fv.lt
  have h8 := h7.pAt hj6.out (a := (pb : Int) + 1) (by unfold I64; omega)
  rw [MS.put_put, MS.put_put, MS.put_put, MS.put_top HFS.out HN.out] at h8
  have h9 : MM C _ _ ({ s with fs := fGo f ((pb : Int) + 1) ((fPile f).dropLast.dropLast ++ [recN o x1 y]) :: rest }) := h8
  have H9 := Lib.hid h9
  clear ho h7 h8 h9
  go_wp2_with fail
  go_end0
  exact ⟨rfl, H9.out⟩
set_option maxHeartbeats 4000000 in
theorem specReckonB (C : Cfg) (w : World) (g n c : Nat) (s : MS) (f : Frame) (rest : List Frame) (o x1 y : Int) (hfs : s.fs = f :: rest) (hn : n = s.fs.length) (h : MM C w (.slice (some ⟨g, 0, none⟩) n c) s) (hj : s.fs.reverse[n - 1]? = some f) (hn0 : 0 < n) (hn1 : n ≤ 1000000) (hnc : n ≤ c) (hcm : c ≤ 9223372036854775807) (pb : Nat) (hpb : f.2.2.1 = (pb : Int)) (hpb6 : pb ≤ 1000000) (hp2 : 2 ≤ (fPile f).length) (hp : (fPile f).length ≤ 1000000) (hy : lastN (fPile f) = y) (hx1 : lastN (fPile f).dropLast = x1) (s1 : I32 y) (s2 : I32 x1) (hb : recB o y = false) (hfn : 0 ≤ f.2.1 ∧ f.2.1 < (C.x.length : Int)) (hr : ∃ r, r < (fCode C.x f).2.2.2.2.length ∧ idxW (inRow f.2.2.1) (fCode C.x f).2.2.2.2 = (r : Int)) (hr0 : ∀ r, r ∈ (fCode C.x f).2.2.2.2 → 0 ≤ r.2.1) (hz : C.x.length ≤ 1048576) (hz2 : (fCode C.x f).2.2.2.2.length ≤ 1048576) (hpa : I64 (padFr C.x f)) :
    Calls Tryz.prog 70 #[.pointer (some ⟨C.M, 0, none⟩), .int .i64 o] w (RetPut C g n c ({ s with fs := raiseFr C.x f 2 (-1) :: rest }) w) := by
  have q1 : (fPile (fGo f f.2.2.1 (fPile f).dropLast)).length = (fPile f).length - 1 := List.length_dropLast
  have HH := Lib.hid h
  have HJ := Lib.hid hj
  have HN := Lib.hid hn
  have HFS := Lib.hid hfs
  have HPB := Lib.hid hpb
  have HY := Lib.hid hy
  have HQ := Lib.hid (show lastN (fPile (fGo f f.2.2.1 (fPile f).dropLast)) = x1 from hx1)
  clear h hj hn hfs hpb hy hx1
  go_enter Tryz.func70, Tryz.ntmps70
  go_wp2_with fail
  refine (specPop C w g n c s f HH.out HJ.out hn0 hn1 hnc hcm (by omega) hp).mono ?_
  rintro e w4 ⟨rfl, k4, v4, hw4, h4⟩
  rw [HY.out]
  have H4 := Lib.hid h4
  have hj4 := Lib.hid (MS.put_get (f := (fGo f f.2.2.1 (fPile f).dropLast)) HJ.out)
  clear hw4 h4
  go_wp2_with fail
  refine (specPop C w4 g n c _ (fGo f f.2.2.1 (fPile f).dropLast) H4.out hj4.out hn0 hn1 hnc hcm (by omega) (by omega)).mono ?_
  rintro e w5 ⟨rfl, k5, v5, hw5, h5⟩
  rw [HQ.out]
  have H5 := Lib.hid h5
  have hj5 := Lib.hid (MS.put_get (f := (fGo (fGo f f.2.2.1 (fPile f).dropLast) f.2.2.1 (fPile f).dropLast.dropLast)) hj4.out)
  clear hw5 h5
  have hl2 : (fPile (fGo (fGo f f.2.2.1 (fPile f).dropLast) f.2.2.1 (fPile f).dropLast.dropLast)).length ≤ 1000000 := by
    have : (fPile (fGo (fGo f f.2.2.1 (fPile f).dropLast) f.2.2.1 (fPile f).dropLast.dropLast)).length = (fPile f).length - 1 - 1 := by show (fPile f).dropLast.dropLast.length = _; rw [List.length_dropLast, List.length_dropLast]
    omega
  go_wp2_with fail
  refine (specL2Reckon w5 o x1 y s2 s1).mono ?_
  rintro e w6 ⟨rfl, rfl⟩
  go_wp2_with fail
  refine (specRaise C w5 g n c _ (fGo (fGo f f.2.2.1 (fPile f).dropLast) f.2.2.1 (fPile f).dropLast.dropLast) 2 (-1) (Or.inl rfl) (by unfold I64; omega) H5.out hj5.out hn0 hn1 hnc hcm hfn hr hr0 hz hz2 hpa).mono ?_
  rintro e w6 ⟨rfl, h6⟩
  rw [MS.put_put, MS.put_put, MS.put_top HFS.out HN.out] at h6
  have H6 := Lib.hid (show MM C w6 (.slice (some ⟨g, 0, none⟩) n c) ({ s with fs := raiseFr C.x f 2 (-1) :: rest }) from h6)
  clear h6
  go_wp2_with fail
  go_end0
  exact ⟨rfl, H6.out⟩
set_option maxHeartbeats 4000000 in
theorem specOffA (C : Cfg) (w : World) (g n c : Nat) (s : MS) (f : Frame) (rest : List Frame) (k : Nat) (hfs : s.fs = f :: rest) (hn : n = s.fs.length) (h : MM C w (.slice (some ⟨g, 0, none⟩) n c) s) (hj : s.fs.reverse[n - 1]? = some f) (hn0 : 0 < n) (hn1 : n ≤ 1000000) (hnc : n ≤ c) (hcm : c ≤ 9223372036854775807) (pb : Nat) (hpb : f.2.2.1 = (pb : Int)) (hpb6 : pb ≤ 1000000) (hkl : k < f.2.2.2.2.2.1.length) (hfl : f.2.2.2.2.2.1.getD k false = false)  :
    Calls Tryz.prog 75 #[.pointer (some ⟨C.M, 0, none⟩), .int .i64 k] w (RetN C ({ s with fs := fGo f ((pb : Int) + 1) (fPile f) :: rest }) w) := by
  obtain ⟨_, _, _, _, _, _, _, _, ho⟩ := h.opg hj
  have gM := ho.fv.gM
  have HH := Lib.hid h
  have HJ := Lib.hid hj
  have HN := Lib.hid hn
  have HFS := Lib.hid hfs
  have HPB := Lib.hid hpb
  clear h hj hn hfs hpb ho
  go_enter Tryz.func75, Tryz.ntmps75
  go_wp2_with fail
  refine (specTop C w g n c s HH.out hn0 hn1 hnc hcm).mono ?_
  rintro e W ⟨rfl, k1, hw1⟩
  have h1 := HH.out.keep (w' := W) (by rw [hw1]; exact belA)
  clear hw1
  obtain ⟨g5, n5, c5, r5, hn5, d1, d2, hg5, hg5g, hg5M⟩ := h1.flagAt HJ.out hkl
  obtain ⟨y, hy⟩ : ∃ y, y = f.2.2.2.2.2.1[k]'hkl := ⟨_, rfl⟩
  rw [← hy] at d1
  obtain rfl : y = false := by rw [hy]; have := hfl; simpa [List.getD, hkl] using this
  have hkn : k < n5 := by omega
  have hkI : (k : Int) < (n5 : Int) := by omega
  have H1 := Lib.hid h1
  obtain ⟨_, _, mv⟩ := h1.mv
  have m3 := mv.m3
  have m2 := mv.m2
  have m6 := mv.m6
  have fz6 := mv.fz 6
  have hMW := mv.lt
  obtain ⟨_, _, _, _, _, _, _, _, ho⟩ := h1.opg HJ.out
  have c2 : W.cell? ⟨g, (n - 1) * 11 + 2, none⟩ = some (.int .i64 pb) := by rw [← HPB.out]; exact ho.fv.c2
  have fz2 := ho.fv.fz ((n - 1) * 11 + 2)
  have hgW := ho.fv.lt
  clear hn5 hy mv ho h1
  have h6 := H1.out.pAt HJ.out (a := (pb : Int) + 1) (by unfold I64; omega)
  rw [MS.put_top HFS.out HN.out] at h6
  have H6 := Lib.hid h6
  clear h6 m3 m2 m6 fz6
  go_wp2_with fail
  go_end0
  exact ⟨rfl, _, H6.out⟩
set_option maxHeartbeats 4000000 in
theorem specOffB (C : Cfg) (w : World) (g n c : Nat) (s : MS) (f : Frame) (rest : List Frame) (k : Nat) (hfs : s.fs = f :: rest) (hn : n = s.fs.length) (h : MM C w (.slice (some ⟨g, 0, none⟩) n c) s) (hj : s.fs.reverse[n - 1]? = some f) (hn0 : 0 < n) (hn1 : n ≤ 1000000) (hnc : n ≤ c) (hcm : c ≤ 9223372036854775807) (pb : Nat) (hpb : f.2.2.1 = (pb : Int)) (hpb6 : pb ≤ 1000000) (hkl : k < f.2.2.2.2.2.1.length) (hfl : f.2.2.2.2.2.1.getD k false = true) (hle : C.most ≤ (n : Int)) :
    Calls Tryz.prog 75 #[.pointer (some ⟨C.M, 0, none⟩), .int .i64 k] w (RetN C ({ s with code := 4 }) w) := by
  obtain ⟨_, _, _, _, _, _, _, _, ho⟩ := h.opg hj
  have gM := ho.fv.gM
  have HH := Lib.hid h
  have HJ := Lib.hid hj
  have HN := Lib.hid hn
  have HFS := Lib.hid hfs
  have HPB := Lib.hid hpb
  clear h hj hn hfs hpb ho
  go_enter Tryz.func75, Tryz.ntmps75
  go_wp2_with fail
  refine (specTop C w g n c s HH.out hn0 hn1 hnc hcm).mono ?_
  rintro e W ⟨rfl, k1, hw1⟩
  have h1 := HH.out.keep (w' := W) (by rw [hw1]; exact belA)
  clear hw1
  obtain ⟨g5, n5, c5, r5, hn5, d1, d2, hg5, hg5g, hg5M⟩ := h1.flagAt HJ.out hkl
  obtain ⟨y, hy⟩ : ∃ y, y = f.2.2.2.2.2.1[k]'hkl := ⟨_, rfl⟩
  rw [← hy] at d1
  obtain rfl : y = true := by rw [hy]; have := hfl; simpa [List.getD, hkl] using this
  have hkn : k < n5 := by omega
  have hkI : (k : Int) < (n5 : Int) := by omega
  have H1 := Lib.hid h1
  obtain ⟨_, _, mv⟩ := h1.mv
  have m3 := mv.m3
  have m2 := mv.m2
  have m6 := mv.m6
  have fz6 := mv.fz 6
  have hMW := mv.lt
  obtain ⟨_, _, _, _, _, _, _, _, ho⟩ := h1.opg HJ.out
  have c2 : W.cell? ⟨g, (n - 1) * 11 + 2, none⟩ = some (.int .i64 pb) := by rw [← HPB.out]; exact ho.fv.c2
  have fz2 := ho.fv.fz ((n - 1) * 11 + 2)
  have hgW := ho.fv.lt
  clear hn5 hy mv ho h1
  have hd : decide ((n : Int) ≥ C.most) = true := decide_eq_true hle
  clear c2 fz2
  go_upto_region 3 with fail
  go_quiet (fail)
  obtain ⟨V, hV⟩ : ∃ V, V = W.drewN nq := ⟨_, rfl⟩
  have hbV : Below W.heap.size W V := by rw [hV]; exact belA
  rw [← hV]
  clear hV m3 m2 m6 fz6 d1 d2 r5
  have h2 := H1.out.keep hbV
  obtain ⟨_, _, mv⟩ := h2.mv
  have m6 := mv.m6
  have fz6 := mv.fz 6
  have hMV := mv.lt
  have H6 := Lib.hid (h2.setCode 4)
  clear h2 mv
  go_wp2_with fail
  go_end0
  exact ⟨rfl, _, H6.out⟩
set_option maxHeartbeats 4000000 in
theorem specOffC (C : Cfg) (w : World) (g n c : Nat) (s : MS) (f : Frame) (rest : List Frame) (k : Nat) (hfs : s.fs = f :: rest) (hn : n = s.fs.length) (h : MM C w (.slice (some ⟨g, 0, none⟩) n c) s) (hj : s.fs.reverse[n - 1]? = some f) (hn0 : 0 < n) (hn1 : n ≤ 1000000) (hnc : n ≤ c) (hcm : c ≤ 9223372036854775807) (pb : Nat) (hpb : f.2.2.1 = (pb : Int)) (hpb6 : pb ≤ 1000000) (hkl : k < f.2.2.2.2.2.1.length) (hfl : f.2.2.2.2.2.1.getD k false = true) (hle : ¬ C.most ≤ (n : Int)) (fb st : Nat) (hfb : f.2.1 = (fb : Int)) (hfbx : fb < C.x.length) (hcl : 0 < (codeD C.x (fb : Int)).2.2.2.1.length) (hks : k < (fCode C.x f).2.2.1.length) (hst : (fCode C.x f).2.2.1[k] = (st : Int)) (hstx : st < C.x.length) (hcz : codeSz (codeD C.x (st : Int)) = true) (hst0 : (codeD C.x (st : Int)).1 = 0) (hmd : 0 ≤ s.made ∧ s.made ≤ 1000000) (hid : I64 f.1) (hno : s.notes.length ≤ 4000000) (hp : (fPile f).length ≤ 1000000) (hk6 : k ≤ 1000000) :
    Calls Tryz.prog 75 #[.pointer (some ⟨C.M, 0, none⟩), .int .i64 k] w (RetN C (callM C.x C.most ({ (s.put (n - 1) (fFlags f (f.2.2.2.2.2.1.set k false))) with notes := s.notes ++ [(2, f.1, (k : Int))] }) (fFlags f (f.2.2.2.2.2.1.set k false)) rest (st : Int) 0 true) w) := by
  obtain ⟨_, _, _, _, _, _, _, _, ho⟩ := h.opg hj
  have gM := ho.fv.gM
  have HH := Lib.hid h
  have HJ := Lib.hid hj
  have HN := Lib.hid hn
  have HFS := Lib.hid hfs
  have HPB := Lib.hid hpb
  clear h hj hn hfs hpb ho
  go_enter Tryz.func75, Tryz.ntmps75
  go_wp2_with fail
  refine (specTop C w g n c s HH.out hn0 hn1 hnc hcm).mono ?_
  rintro e W ⟨rfl, k1, hw1⟩
  have h1 := HH.out.keep (w' := W) (by rw [hw1]; exact belA)
  clear hw1
  obtain ⟨g5, n5, c5, r5, hn5, d1, d2, hg5, hg5g, hg5M⟩ := h1.flagAt HJ.out hkl
  obtain ⟨y, hy⟩ : ∃ y, y = f.2.2.2.2.2.1[k]'hkl := ⟨_, rfl⟩
  rw [← hy] at d1
  obtain rfl : y = true := by rw [hy]; have := hfl; simpa [List.getD, hkl] using this
  have hkn : k < n5 := by omega
  have hkI : (k : Int) < (n5 : Int) := by omega
  have H1 := Lib.hid h1
  obtain ⟨_, _, mv⟩ := h1.mv
  have m3 := mv.m3
  have m2 := mv.m2
  have m6 := mv.m6
  have fz6 := mv.fz 6
  have hMW := mv.lt
  obtain ⟨_, _, _, _, _, _, _, _, ho⟩ := h1.opg HJ.out
  have c2 : W.cell? ⟨g, (n - 1) * 11 + 2, none⟩ = some (.int .i64 pb) := by rw [← HPB.out]; exact ho.fv.c2
  have fz2 := ho.fv.fz ((n - 1) * 11 + 2)
  have hgW := ho.fv.lt
  clear hn5 hy mv ho h1
  have hd : decide ((n : Int) ≥ C.most) = false := decide_eq_false (by omega)
  have hd2 : ¬ (n : Int) ≥ C.most := by omega
  have HFB := Lib.hid hfb
  have HST := Lib.hid hst
  clear c2 fz2 m6 fz6 hfb hst
  go_upto_region 3 with fail
  go_quiet (fail)
  obtain ⟨V, hV⟩ : ∃ V, V = W.drewN nq := ⟨_, rfl⟩
  have hbV : Below W.heap.size W V := by rw [hV]; exact belA
  rw [← hV]
  clear hV m3 m2
  have hzV := hbV.size
  have h2 := H1.out.keep hbV
  have r5v := below_cell hbV r5
  have d1v := below_cell hbV d1
  have d2v := below_frozen (p := ⟨g5, k, none⟩) hbV hg5 d2
  have hg5V : g5 < V.heap.size := by omega
  obtain ⟨_, _, _, _, _, _, _, _, ho⟩ := h2.opg HJ.out
  have c5 := ho.fv.c5
  have hgV := ho.fv.lt
  have h3 := h2.pFlag HJ.out r5v (a := false) (i := k) hkl
  have hj3 := Lib.hid (MS.put_get (f := (fFlags f (f.2.2.2.2.2.1.set k false))) HJ.out)
  have H3 := Lib.hid h3
  clear ho h2 h3 d1 d2 r5 c5
  go_upto_region 6 with fail
  obtain ⟨V2, hV2⟩ : ∃ V2, V2 = V.setCell ⟨g5, k, none⟩ (.bool false) := ⟨_, rfl⟩
  rw [← hV2] at H3 ⊢
  clear hV2 r5v d1v d2v
  go_wp2_with fail
  refine (specNote C V2 g n c _ (fFlags f (f.2.2.2.2.2.1.set k false)) 2 k (by unfold I64; omega) hid (by unfold I64; omega) H3.out hj3.out hn0 hn1 hnc hcm hno).mono ?_
  rintro e w5 ⟨rfl, h5q, _⟩
  have h5 : MM C w5 (.slice (some ⟨g, 0, none⟩) n c) { (s.put (n - 1) (fFlags f (f.2.2.2.2.2.1.set k false))) with notes := s.notes ++ [(2, f.1, (k : Int))] } := h5q
  clear h5q
  have hfs5 : ({ (s.put (n - 1) (fFlags f (f.2.2.2.2.2.1.set k false))) with notes := s.notes ++ [(2, f.1, (k : Int))] } : MS).fs = (fFlags f (f.2.2.2.2.2.1.set k false)) :: rest := congrArg MS.fs (MS.put_top (f' := (fFlags f (f.2.2.2.2.2.1.set k false))) HFS.out HN.out)
  have hn5 : n = ({ (s.put (n - 1) (fFlags f (f.2.2.2.2.2.1.set k false))) with notes := s.notes ++ [(2, f.1, (k : Int))] } : MS).fs.length := HN.out.trans (MS.put_len ..).symm
  obtain ⟨bc, oc, _, _, _, _, eA, hnx, _, hbc2, _, _, _, _, ⟨ks, ds, D2, u2, kS⟩, _⟩ := h5.insCells (fn := fb) (p := 0) hfbx hcl
  have hcd2 : fCode C.x f = codeD C.x (fb : Int) := by unfold fCode; rw [HFB.out]
  rw [← hcd2] at kS
  obtain ⟨bs, os, rfl, _, qs2, hcs, his⟩ := kS.int_at (k := k) (by have := kS.lenEq; omega)
  rw [HST.out] at hcs
  obtain ⟨_, _, mv⟩ := h5.mv
  have m0 := mv.m0
  rw [eA] at m0
  obtain ⟨_, _, _, _, _, _, _, _, ho⟩ := h5.opg (hj3.out : ({ (s.put (n - 1) (fFlags f (f.2.2.2.2.2.1.set k false))) with notes := s.notes ++ [(2, f.1, (k : Int))] } : MS).fs.reverse[n - 1]? = some (fFlags f (f.2.2.2.2.2.1.set k false)))
  have c1 : w5.cell? ⟨g, (n - 1) * 11 + 1, none⟩ = some (.int .i64 fb) := by rw [← HFB.out]; exact ho.fv.c1
  have hS := Lib.hid (show ∀ V', Below w5.heap.size w5 V' → V'.cell? ⟨C.M, 0, none⟩ = some (.slice (some ⟨bc, oc, none⟩) C.nx C.cx) ∧ V'.cell? ⟨g, (n - 1) * 11 + 1, none⟩ = some (.int .i64 fb) ∧ V'.cell? ⟨bc, oc + fb * 5 + 2, none⟩ = some (.slice (some ⟨bs, os, none⟩) ks ds) ∧ V'.cell? ⟨bs, os + k, none⟩ = some (.int .i64 st) from fun V' hV => ⟨below_cell hV m0, below_cell hV c1, below_cell hV u2, below_cell hV hcs⟩)
  have hksl : k < ks := by have := kS.lenEq; omega
  have hksI : (k : Int) < (ks : Int) := by omega
  have l1 : fb < C.nx := by omega
  have l2 : (fb : Int) < (C.nx : Int) := by omega
  have H5 := Lib.hid h5
  have HF5 := Lib.hid hfs5
  have HN5 := Lib.hid hn5
  clear mv ho m0 c1 u2 hcs kS his eA hnx h5 hfs5 hn5 hcd2
  go_upto_region 7 with fail
  refine wp_region_noPanic ?_
  refine wp_region_cut (S := (fun V' => V'.cell? ⟨C.M, 0, none⟩ = some (.slice (some ⟨bc, oc, none⟩) C.nx C.cx) ∧ V'.cell? ⟨g, (n - 1) * 11 + 1, none⟩ = some (.int .i64 fb) ∧ V'.cell? ⟨bc, oc + fb * 5 + 2, none⟩ = some (.slice (some ⟨bs, os, none⟩) ks ds) ∧ V'.cell? ⟨bs, os + k, none⟩ = some (.int .i64 st))) 16 (by kernel_rfl) (by kernel_rfl) (hS.out _ (show Below w5.heap.size w5 _ by exact beloA)) (fun hR0 => ?_)
  simp only [headOps, List.take_succ_cons, List.take_zero]
  refine takeH 0 ?_
  refine takeH 1 ?_
  refine takeH 2 ?_
  refine takeH 3 ?_
  refine takeH 4 ?_
  refine takeH 5 ?_
  refine takeH 6 ?_
  refine takeH 7 ?_
  refine takeH 8 ?_
  refine takeH 9 ?_
  refine takeH 10 ?_
  refine takeH 11 ?_
  refine takeH 12 ?_
  refine takeH 13 ?_
  refine takeH 14 ?_
  refine takeH 15 ?_
  refine wpAnyH_done (by kernel_rfl) ?_ _
  refine lastQ_op rfl (fun K hK => ?_)
  rw [if_pos (by rfl)]
  go_simp
  refine (specCall C _ _ { (s.put (n - 1) (fFlags f (f.2.2.2.2.2.1.set k false))) with notes := s.notes ++ [(2, f.1, (k : Int))] } (fFlags f (f.2.2.2.2.2.1.set k false)) rest st 0 true (H5.out.keep (show Below w5.heap.size w5 _ by exact beloA)) HF5.out (HN5.out ▸ hn1) hp (Nat.zero_le _) hstx hcz hst0 (Nat.zero_le _) hmd).mono ?_
  rintro e w6 ⟨rfl, vf6, h6, _⟩
  have H6 := Lib.hid h6
  clear h6
  refine hK _ _ ?_
  clear hK K
  refine NoPanic.normal ?_
  go_wp2_with fail
  go_end0
  exact ⟨rfl, _, H6.out⟩
end Go.Proofs.YtgdeclmciflmpaaGreat

/- One step of the reference's machine: walks. Printed by steps8gen.py. -/
set_option linter.unusedVariables false
set_option linter.unusedSimpArgs false
set_option maxRecDepth 100000
namespace Go.Proofs.YtgdeclmciflmpaaGreat
open Go.RowKit
attribute [local irreducible] wpList
set_option maxHeartbeats 4000000 in
theorem specStep1 (C : Cfg) (w : World) (vf : Value) (s : MS) (f : Frame) (rest : List Frame) (N : Nat) (h : MM C w vf s) (R : Rdy C.x C.ins C.most N s f rest) (hK : (fIns C.x f).1 = 1) :
    Calls Tryz.prog 40 #[.pointer (some ⟨C.M, 0, none⟩)] w (RetN C (stepF C.x C.ins C.most s) w) := by
  obtain ⟨g, n, c, rfl, hn, h0, hnc, hcm, hj⟩ := h.opens R.fs
  have hn1 : n ≤ 1000000 := by have := R.ok.many; omega
  have FW := Lib.hid R.fw
  have HIW := Lib.hid R.insW
  have hpl := R.pile
  have HE := Lib.hid (show stepF C.x C.ins C.most s = stepI C.x C.ins C.most s f rest (fIns C.x f) by unfold stepF; rw [R.fs])
  obtain ⟨N2, hN2⟩ : ∃ N2, (fIns C.x f).2 = N2 := ⟨_, rfl⟩
  have i2 : I64 N2 := hN2 ▸ ins64 R.insW.1
  obtain ⟨fb, hfb⟩ := Int.eq_ofNat_of_zero_le FW.out.fn.1
  obtain ⟨pb, hpb⟩ := Int.eq_ofNat_of_zero_le FW.out.at_.1
  have hfbx : fb < C.x.length := by have := FW.out.fn.2; omega
  have hcd : fCode C.x f = codeD C.x (fb : Int) := by unfold fCode; rw [hfb]
  have hpbx : pb < (codeD C.x (fb : Int)).2.2.2.1.length := by have := FW.out.at_.2; rw [hcd, hpb] at this; omega
  have l5 : pb ≤ 1000000 := by have := FW.out.il; have := FW.out.at_.2; omega
  have l6 : fb ≤ 1000000 := by have := FW.out.xl; omega
  have hIe : fIns C.x f = (1, N2) := by rw [← hK, ← hN2]
  have HIE := Lib.hid hIe
  have HN := Lib.hid hn
  have HJ := Lib.hid hj
  have RR := Lib.hid R
  have HH := Lib.hid h
  clear hn hj R h
  go_enter Tryz.func40, Tryz.ntmps40
  go_wp2_with fail
  refine (specTop C _ g n c s HH.out h0 hn1 hnc hcm).mono ?_
  rintro e w1 ⟨rfl, k1, hw1⟩
  have h2 : MM C w1 (.slice (some ⟨g, 0, none⟩) n c) s := by rw [hw1]; exact HH.out.drewN k1
  clear hw1
  obtain ⟨bc, oc, bi, oi, k3, d3, eA, hnx, hk3, hbc, hbi, u3, u5, u6, _, _⟩ := h2.insCells hfbx hpbx
  have hop : insAt (codeD C.x (fb : Int)).2.2.2.1 (pb : Int) = fIns C.x f := by unfold fIns; rw [hcd, hpb]
  rw [hop, hIe] at u5 u6
  obtain ⟨_, _, mv⟩ := h2.mv
  have m0 := mv.m0
  rw [eA] at m0
  obtain ⟨_, _, _, _, _, _, _, _, ho⟩ := h2.opg HJ.out
  have c1 := ho.fv.c1
  have c2 := ho.fv.c2
  rw [hfb] at c1
  rw [hpb] at c2
  have hgl := ho.fv.lt
  have hM3 := mv.lt
  have hgM := ho.fv.gM
  obtain ⟨_, _, hBw⟩ := h2.xs
  have l1 : fb < C.nx := by omega
  have l2 : (fb : Int) < (C.nx : Int) := by omega
  have l3 : pb < k3 := by omega
  have l4 : (pb : Int) < (k3 : Int) := by omega
  have hS := Lib.hid (show ∀ V', Below w1.heap.size w1 V' → V'.cell? ⟨C.M, 0, none⟩ = some (.slice (some ⟨bc, oc, none⟩) C.nx C.cx) ∧ V'.cell? ⟨g, (n - 1) * 11 + 1, none⟩ = some (.int .i64 fb) ∧ V'.cell? ⟨g, (n - 1) * 11 + 2, none⟩ = some (.int .i64 pb) ∧ V'.cell? ⟨bc, oc + fb * 5 + 3, none⟩ = some (.slice (some ⟨bi, oi, none⟩) k3 d3) ∧ V'.cell? ⟨bi, oi + pb * 2, none⟩ = some (.int .i64 1) ∧ V'.cell? ⟨bi, oi + pb * 2 + 1, none⟩ = some (.int .i64 N2) from fun V' hV => ⟨below_cell hV m0, below_cell hV c1, below_cell hV c2, below_cell hV u3, below_cell hV u5, below_cell hV u6⟩)
  have HPB := Lib.hid hpb
  have H2 := Lib.hid h2
  clear mv ho h2 hk3 hnx hcd hpb hfb hop eA hIe hK hN2 m0 c1 c2 u3 u5 u6
  go_upto_region 1 with fail
  obtain ⟨q0, q1, q2, q3, q4, q5⟩ := hS.out w1 (Below.refl _ _)
  go_region_held3 (fun V' => V'.cell? ⟨C.M, 0, none⟩ = some (.slice (some ⟨bc, oc, none⟩) C.nx C.cx) ∧ V'.cell? ⟨g, (n - 1) * 11 + 1, none⟩ = some (.int .i64 fb) ∧ V'.cell? ⟨g, (n - 1) * 11 + 2, none⟩ = some (.int .i64 pb) ∧ V'.cell? ⟨bc, oc + fb * 5 + 3, none⟩ = some (.slice (some ⟨bi, oi, none⟩) k3 d3) ∧ V'.cell? ⟨bi, oi + pb * 2, none⟩ = some (.int .i64 1) ∧ V'.cell? ⟨bi, oi + pb * 2 + 1, none⟩ = some (.int .i64 N2)) (exact hS.out _ (show Below w1.heap.size w1 _ by exact beloA)) (fail)
  obtain ⟨W, hW⟩ : ∃ W, W = (w1.alloc (.cells #[.int .i64 1, .int .i64 N2] 84)).drew := ⟨_, rfl⟩
  have hbW : Below w1.heap.size w1 W := by rw [hW]; exact belA
  have hzW : W.heap.size = w1.heap.size + 1 := by rw [hW]; simp
  have b0 : W.cell? ⟨w1.heap.size, 0, none⟩ = some (.int .i64 1) := by rw [hW]; simp [go_sem]
  have b1 : W.cell? ⟨w1.heap.size, 1, none⟩ = some (.int .i64 N2) := by rw [hW]; simp [go_sem]
  have H3 := Lib.hid (H2.out.apart hbW (Fx := [w1.heap.size]) (fun k hk => by rw [List.mem_singleton.1 hk]; omega))
  have H1 := Lib.hid H3.out.less
  rw [← hW]
  obtain ⟨X, hX⟩ : ∃ X, w1.heap.size = X := ⟨_, rfl⟩
  rw [hX] at H3 hzW b0 b1 ⊢
  have hMX : C.M < X := by omega
  have hgX : g < X := by omega
  clear hW hbW hX H2 hS q0 q1 q2 q3 q4 q5 hgl hM3
  obtain ⟨_, _, _, _, _, _, _, _, ho⟩ := H1.out.opg HJ.out
  have c2 : W.cell? ⟨g, (n - 1) * 11 + 2, none⟩ = some (.int .i64 pb) := by rw [← HPB.out]; exact ho.fv.c2
  have fz2 := ho.fv.fz ((n - 1) * 11 + 2)
  have hgW := ho.fv.lt
  clear ho
  have HF := Lib.hid (show stepF C.x C.ins C.most s = { s with fs := fGo f ((pb : Int) + 1) (fPile f ++ [N2]) :: rest } by rw [HE.out, HIE.out]; simp [stepI, HPB.out])
  go_wp2_with fail
  refine (specPlain1 C W g n c s f rest pb RR.out.fs HN.out H1.out HJ.out h0 hn1 hnc hcm HPB.out l5 N2 i2 (by omega)).mono ?_
  rintro e w5 ⟨rfl, h5⟩
  have H5 := Lib.hid h5
  clear h5
  go_wp2_with fail
  go_end0
  exact ⟨rfl, _, HF.out ▸ H5.out⟩
set_option maxHeartbeats 4000000 in
theorem specStep2 (C : Cfg) (w : World) (vf : Value) (s : MS) (f : Frame) (rest : List Frame) (N : Nat) (h : MM C w vf s) (R : Rdy C.x C.ins C.most N s f rest) (hK : (fIns C.x f).1 = 2) :
    Calls Tryz.prog 40 #[.pointer (some ⟨C.M, 0, none⟩)] w (RetN C (stepF C.x C.ins C.most s) w) := by
  obtain ⟨g, n, c, rfl, hn, h0, hnc, hcm, hj⟩ := h.opens R.fs
  have hn1 : n ≤ 1000000 := by have := R.ok.many; omega
  have FW := Lib.hid R.fw
  have HIW := Lib.hid R.insW
  have hpl := R.pile
  have HE := Lib.hid (show stepF C.x C.ins C.most s = stepI C.x C.ins C.most s f rest (fIns C.x f) by unfold stepF; rw [R.fs])
  obtain ⟨N2, hN2⟩ : ∃ N2, (fIns C.x f).2 = N2 := ⟨_, rfl⟩
  have i2 : I64 N2 := hN2 ▸ ins64 R.insW.1
  obtain ⟨fb, hfb⟩ := Int.eq_ofNat_of_zero_le FW.out.fn.1
  obtain ⟨pb, hpb⟩ := Int.eq_ofNat_of_zero_le FW.out.at_.1
  have hfbx : fb < C.x.length := by have := FW.out.fn.2; omega
  have hcd : fCode C.x f = codeD C.x (fb : Int) := by unfold fCode; rw [hfb]
  have hpbx : pb < (codeD C.x (fb : Int)).2.2.2.1.length := by have := FW.out.at_.2; rw [hcd, hpb] at this; omega
  have l5 : pb ≤ 1000000 := by have := FW.out.il; have := FW.out.at_.2; omega
  have l6 : fb ≤ 1000000 := by have := FW.out.xl; omega
  have hIe : fIns C.x f = (2, N2) := by rw [← hK, ← hN2]
  have HIE := Lib.hid hIe
  have HN := Lib.hid hn
  have HJ := Lib.hid hj
  have RR := Lib.hid R
  have HH := Lib.hid h
  clear hn hj R h
  go_enter Tryz.func40, Tryz.ntmps40
  go_wp2_with fail
  refine (specTop C _ g n c s HH.out h0 hn1 hnc hcm).mono ?_
  rintro e w1 ⟨rfl, k1, hw1⟩
  have h2 : MM C w1 (.slice (some ⟨g, 0, none⟩) n c) s := by rw [hw1]; exact HH.out.drewN k1
  clear hw1
  obtain ⟨bc, oc, bi, oi, k3, d3, eA, hnx, hk3, hbc, hbi, u3, u5, u6, _, _⟩ := h2.insCells hfbx hpbx
  have hop : insAt (codeD C.x (fb : Int)).2.2.2.1 (pb : Int) = fIns C.x f := by unfold fIns; rw [hcd, hpb]
  rw [hop, hIe] at u5 u6
  obtain ⟨_, _, mv⟩ := h2.mv
  have m0 := mv.m0
  rw [eA] at m0
  obtain ⟨_, _, _, _, _, _, _, _, ho⟩ := h2.opg HJ.out
  have c1 := ho.fv.c1
  have c2 := ho.fv.c2
  rw [hfb] at c1
  rw [hpb] at c2
  have hgl := ho.fv.lt
  have hM3 := mv.lt
  have hgM := ho.fv.gM
  obtain ⟨_, _, hBw⟩ := h2.xs
  have l1 : fb < C.nx := by omega
  have l2 : (fb : Int) < (C.nx : Int) := by omega
  have l3 : pb < k3 := by omega
  have l4 : (pb : Int) < (k3 : Int) := by omega
  have hS := Lib.hid (show ∀ V', Below w1.heap.size w1 V' → V'.cell? ⟨C.M, 0, none⟩ = some (.slice (some ⟨bc, oc, none⟩) C.nx C.cx) ∧ V'.cell? ⟨g, (n - 1) * 11 + 1, none⟩ = some (.int .i64 fb) ∧ V'.cell? ⟨g, (n - 1) * 11 + 2, none⟩ = some (.int .i64 pb) ∧ V'.cell? ⟨bc, oc + fb * 5 + 3, none⟩ = some (.slice (some ⟨bi, oi, none⟩) k3 d3) ∧ V'.cell? ⟨bi, oi + pb * 2, none⟩ = some (.int .i64 2) ∧ V'.cell? ⟨bi, oi + pb * 2 + 1, none⟩ = some (.int .i64 N2) from fun V' hV => ⟨below_cell hV m0, below_cell hV c1, below_cell hV c2, below_cell hV u3, below_cell hV u5, below_cell hV u6⟩)
  have HPB := Lib.hid hpb
  have H2 := Lib.hid h2
  clear mv ho h2 hk3 hnx hcd hpb hfb hop eA hIe hK hN2 m0 c1 c2 u3 u5 u6
  go_upto_region 1 with fail
  obtain ⟨q0, q1, q2, q3, q4, q5⟩ := hS.out w1 (Below.refl _ _)
  go_region_held3 (fun V' => V'.cell? ⟨C.M, 0, none⟩ = some (.slice (some ⟨bc, oc, none⟩) C.nx C.cx) ∧ V'.cell? ⟨g, (n - 1) * 11 + 1, none⟩ = some (.int .i64 fb) ∧ V'.cell? ⟨g, (n - 1) * 11 + 2, none⟩ = some (.int .i64 pb) ∧ V'.cell? ⟨bc, oc + fb * 5 + 3, none⟩ = some (.slice (some ⟨bi, oi, none⟩) k3 d3) ∧ V'.cell? ⟨bi, oi + pb * 2, none⟩ = some (.int .i64 2) ∧ V'.cell? ⟨bi, oi + pb * 2 + 1, none⟩ = some (.int .i64 N2)) (exact hS.out _ (show Below w1.heap.size w1 _ by exact beloA)) (fail)
  obtain ⟨W, hW⟩ : ∃ W, W = (w1.alloc (.cells #[.int .i64 2, .int .i64 N2] 84)).drew := ⟨_, rfl⟩
  have hbW : Below w1.heap.size w1 W := by rw [hW]; exact belA
  have hzW : W.heap.size = w1.heap.size + 1 := by rw [hW]; simp
  have b0 : W.cell? ⟨w1.heap.size, 0, none⟩ = some (.int .i64 2) := by rw [hW]; simp [go_sem]
  have b1 : W.cell? ⟨w1.heap.size, 1, none⟩ = some (.int .i64 N2) := by rw [hW]; simp [go_sem]
  have H3 := Lib.hid (H2.out.apart hbW (Fx := [w1.heap.size]) (fun k hk => by rw [List.mem_singleton.1 hk]; omega))
  have H1 := Lib.hid H3.out.less
  rw [← hW]
  obtain ⟨X, hX⟩ : ∃ X, w1.heap.size = X := ⟨_, rfl⟩
  rw [hX] at H3 hzW b0 b1 ⊢
  have hMX : C.M < X := by omega
  have hgX : g < X := by omega
  clear hW hbW hX H2 hS q0 q1 q2 q3 q4 q5 hgl hM3
  obtain ⟨_, _, _, _, _, _, _, _, ho⟩ := H1.out.opg HJ.out
  have c2 : W.cell? ⟨g, (n - 1) * 11 + 2, none⟩ = some (.int .i64 pb) := by rw [← HPB.out]; exact ho.fv.c2
  have fz2 := ho.fv.fz ((n - 1) * 11 + 2)
  have hgW := ho.fv.lt
  clear ho
  obtain ⟨k, hk2, hkl⟩ := RR.out.var (by rw [HIE.out]; simp)
  obtain rfl : N2 = (k : Int) := by rw [HIE.out] at hk2; exact hk2
  have HF := Lib.hid (show stepF C.x C.ins C.most s = { s with fs := fGo f ((pb : Int) + 1) (fPile f ++ [f.2.2.2.2.1.getD k 0]) :: rest } by rw [HE.out, HIE.out]; simp [stepI, HPB.out])
  go_wp2_with fail
  refine (specPlain2 C W g n c s f rest pb RR.out.fs HN.out H1.out HJ.out h0 hn1 hnc hcm HPB.out l5 k hkl (by omega)).mono ?_
  rintro e w5 ⟨rfl, h5⟩
  have H5 := Lib.hid h5
  clear h5
  go_wp2_with fail
  go_end0
  exact ⟨rfl, _, HF.out ▸ H5.out⟩
set_option maxHeartbeats 4000000 in
theorem specStep3 (C : Cfg) (w : World) (vf : Value) (s : MS) (f : Frame) (rest : List Frame) (N : Nat) (h : MM C w vf s) (R : Rdy C.x C.ins C.most N s f rest) (hK : (fIns C.x f).1 = 3) :
    Calls Tryz.prog 40 #[.pointer (some ⟨C.M, 0, none⟩)] w (RetN C (stepF C.x C.ins C.most s) w) := by
  obtain ⟨g, n, c, rfl, hn, h0, hnc, hcm, hj⟩ := h.opens R.fs
  have hn1 : n ≤ 1000000 := by have := R.ok.many; omega
  have FW := Lib.hid R.fw
  have HIW := Lib.hid R.insW
  have hpl := R.pile
  have HE := Lib.hid (show stepF C.x C.ins C.most s = stepI C.x C.ins C.most s f rest (fIns C.x f) by unfold stepF; rw [R.fs])
  obtain ⟨N2, hN2⟩ : ∃ N2, (fIns C.x f).2 = N2 := ⟨_, rfl⟩
  have i2 : I64 N2 := hN2 ▸ ins64 R.insW.1
  obtain ⟨fb, hfb⟩ := Int.eq_ofNat_of_zero_le FW.out.fn.1
  obtain ⟨pb, hpb⟩ := Int.eq_ofNat_of_zero_le FW.out.at_.1
  have hfbx : fb < C.x.length := by have := FW.out.fn.2; omega
  have hcd : fCode C.x f = codeD C.x (fb : Int) := by unfold fCode; rw [hfb]
  have hpbx : pb < (codeD C.x (fb : Int)).2.2.2.1.length := by have := FW.out.at_.2; rw [hcd, hpb] at this; omega
  have l5 : pb ≤ 1000000 := by have := FW.out.il; have := FW.out.at_.2; omega
  have l6 : fb ≤ 1000000 := by have := FW.out.xl; omega
  have hIe : fIns C.x f = (3, N2) := by rw [← hK, ← hN2]
  have HIE := Lib.hid hIe
  have HN := Lib.hid hn
  have HJ := Lib.hid hj
  have RR := Lib.hid R
  have HH := Lib.hid h
  clear hn hj R h
  go_enter Tryz.func40, Tryz.ntmps40
  go_wp2_with fail
  refine (specTop C _ g n c s HH.out h0 hn1 hnc hcm).mono ?_
  rintro e w1 ⟨rfl, k1, hw1⟩
  have h2 : MM C w1 (.slice (some ⟨g, 0, none⟩) n c) s := by rw [hw1]; exact HH.out.drewN k1
  clear hw1
  obtain ⟨bc, oc, bi, oi, k3, d3, eA, hnx, hk3, hbc, hbi, u3, u5, u6, _, _⟩ := h2.insCells hfbx hpbx
  have hop : insAt (codeD C.x (fb : Int)).2.2.2.1 (pb : Int) = fIns C.x f := by unfold fIns; rw [hcd, hpb]
  rw [hop, hIe] at u5 u6
  obtain ⟨_, _, mv⟩ := h2.mv
  have m0 := mv.m0
  rw [eA] at m0
  obtain ⟨_, _, _, _, _, _, _, _, ho⟩ := h2.opg HJ.out
  have c1 := ho.fv.c1
  have c2 := ho.fv.c2
  rw [hfb] at c1
  rw [hpb] at c2
  have hgl := ho.fv.lt
  have hM3 := mv.lt
  have hgM := ho.fv.gM
  obtain ⟨_, _, hBw⟩ := h2.xs
  have l1 : fb < C.nx := by omega
  have l2 : (fb : Int) < (C.nx : Int) := by omega
  have l3 : pb < k3 := by omega
  have l4 : (pb : Int) < (k3 : Int) := by omega
  have hS := Lib.hid (show ∀ V', Below w1.heap.size w1 V' → V'.cell? ⟨C.M, 0, none⟩ = some (.slice (some ⟨bc, oc, none⟩) C.nx C.cx) ∧ V'.cell? ⟨g, (n - 1) * 11 + 1, none⟩ = some (.int .i64 fb) ∧ V'.cell? ⟨g, (n - 1) * 11 + 2, none⟩ = some (.int .i64 pb) ∧ V'.cell? ⟨bc, oc + fb * 5 + 3, none⟩ = some (.slice (some ⟨bi, oi, none⟩) k3 d3) ∧ V'.cell? ⟨bi, oi + pb * 2, none⟩ = some (.int .i64 3) ∧ V'.cell? ⟨bi, oi + pb * 2 + 1, none⟩ = some (.int .i64 N2) from fun V' hV => ⟨below_cell hV m0, below_cell hV c1, below_cell hV c2, below_cell hV u3, below_cell hV u5, below_cell hV u6⟩)
  have HPB := Lib.hid hpb
  have H2 := Lib.hid h2
  clear mv ho h2 hk3 hnx hcd hpb hfb hop eA hIe hK hN2 m0 c1 c2 u3 u5 u6
  go_upto_region 1 with fail
  obtain ⟨q0, q1, q2, q3, q4, q5⟩ := hS.out w1 (Below.refl _ _)
  go_region_held3 (fun V' => V'.cell? ⟨C.M, 0, none⟩ = some (.slice (some ⟨bc, oc, none⟩) C.nx C.cx) ∧ V'.cell? ⟨g, (n - 1) * 11 + 1, none⟩ = some (.int .i64 fb) ∧ V'.cell? ⟨g, (n - 1) * 11 + 2, none⟩ = some (.int .i64 pb) ∧ V'.cell? ⟨bc, oc + fb * 5 + 3, none⟩ = some (.slice (some ⟨bi, oi, none⟩) k3 d3) ∧ V'.cell? ⟨bi, oi + pb * 2, none⟩ = some (.int .i64 3) ∧ V'.cell? ⟨bi, oi + pb * 2 + 1, none⟩ = some (.int .i64 N2)) (exact hS.out _ (show Below w1.heap.size w1 _ by exact beloA)) (fail)
  obtain ⟨W, hW⟩ : ∃ W, W = (w1.alloc (.cells #[.int .i64 3, .int .i64 N2] 84)).drew := ⟨_, rfl⟩
  have hbW : Below w1.heap.size w1 W := by rw [hW]; exact belA
  have hzW : W.heap.size = w1.heap.size + 1 := by rw [hW]; simp
  have b0 : W.cell? ⟨w1.heap.size, 0, none⟩ = some (.int .i64 3) := by rw [hW]; simp [go_sem]
  have b1 : W.cell? ⟨w1.heap.size, 1, none⟩ = some (.int .i64 N2) := by rw [hW]; simp [go_sem]
  have H3 := Lib.hid (H2.out.apart hbW (Fx := [w1.heap.size]) (fun k hk => by rw [List.mem_singleton.1 hk]; omega))
  have H1 := Lib.hid H3.out.less
  rw [← hW]
  obtain ⟨X, hX⟩ : ∃ X, w1.heap.size = X := ⟨_, rfl⟩
  rw [hX] at H3 hzW b0 b1 ⊢
  have hMX : C.M < X := by omega
  have hgX : g < X := by omega
  clear hW hbW hX H2 hS q0 q1 q2 q3 q4 q5 hgl hM3
  obtain ⟨_, _, _, _, _, _, _, _, ho⟩ := H1.out.opg HJ.out
  have c2 : W.cell? ⟨g, (n - 1) * 11 + 2, none⟩ = some (.int .i64 pb) := by rw [← HPB.out]; exact ho.fv.c2
  have fz2 := ho.fv.fz ((n - 1) * 11 + 2)
  have hgW := ho.fv.lt
  clear ho
  obtain ⟨k, hk2, hkl⟩ := RR.out.var (by rw [HIE.out]; simp)
  obtain rfl : N2 = (k : Int) := by rw [HIE.out] at hk2; exact hk2
  have hp0 : 0 < (fPile f).length := by have := HIW.out.2.1; rw [HIE.out, tk1 (by simp)] at this; omega
  have hsl := small_lastN FW.out.ps
  have hl64 := I64_of hsl
  have HF := Lib.hid (show stepF C.x C.ins C.most s = { s with fs := fVars (fGo f ((pb : Int) + 1) (fPile f).dropLast) (f.2.2.2.2.1.set k (lastN (fPile f))) :: rest } by rw [HE.out, HIE.out]; simp [stepI, HPB.out])
  go_wp2_with fail
  refine (specPlain3 C W g n c s f rest pb RR.out.fs HN.out H1.out HJ.out h0 hn1 hnc hcm HPB.out l5 k hkl hl64 hp0 (by omega)).mono ?_
  rintro e w5 ⟨rfl, h5⟩
  have H5 := Lib.hid h5
  clear h5
  go_wp2_with fail
  go_end0
  exact ⟨rfl, _, HF.out ▸ H5.out⟩
set_option maxHeartbeats 4000000 in
theorem specStep9 (C : Cfg) (w : World) (vf : Value) (s : MS) (f : Frame) (rest : List Frame) (N : Nat) (h : MM C w vf s) (R : Rdy C.x C.ins C.most N s f rest) (hK : (fIns C.x f).1 = 9) :
    Calls Tryz.prog 40 #[.pointer (some ⟨C.M, 0, none⟩)] w (RetN C (stepF C.x C.ins C.most s) w) := by
  obtain ⟨g, n, c, rfl, hn, h0, hnc, hcm, hj⟩ := h.opens R.fs
  have hn1 : n ≤ 1000000 := by have := R.ok.many; omega
  have FW := Lib.hid R.fw
  have HIW := Lib.hid R.insW
  have hpl := R.pile
  have HE := Lib.hid (show stepF C.x C.ins C.most s = stepI C.x C.ins C.most s f rest (fIns C.x f) by unfold stepF; rw [R.fs])
  obtain ⟨N2, hN2⟩ : ∃ N2, (fIns C.x f).2 = N2 := ⟨_, rfl⟩
  have i2 : I64 N2 := hN2 ▸ ins64 R.insW.1
  obtain ⟨fb, hfb⟩ := Int.eq_ofNat_of_zero_le FW.out.fn.1
  obtain ⟨pb, hpb⟩ := Int.eq_ofNat_of_zero_le FW.out.at_.1
  have hfbx : fb < C.x.length := by have := FW.out.fn.2; omega
  have hcd : fCode C.x f = codeD C.x (fb : Int) := by unfold fCode; rw [hfb]
  have hpbx : pb < (codeD C.x (fb : Int)).2.2.2.1.length := by have := FW.out.at_.2; rw [hcd, hpb] at this; omega
  have l5 : pb ≤ 1000000 := by have := FW.out.il; have := FW.out.at_.2; omega
  have l6 : fb ≤ 1000000 := by have := FW.out.xl; omega
  have hIe : fIns C.x f = (9, N2) := by rw [← hK, ← hN2]
  have HIE := Lib.hid hIe
  have HN := Lib.hid hn
  have HJ := Lib.hid hj
  have RR := Lib.hid R
  have HH := Lib.hid h
  clear hn hj R h
  go_enter Tryz.func40, Tryz.ntmps40
  go_wp2_with fail
  refine (specTop C _ g n c s HH.out h0 hn1 hnc hcm).mono ?_
  rintro e w1 ⟨rfl, k1, hw1⟩
  have h2 : MM C w1 (.slice (some ⟨g, 0, none⟩) n c) s := by rw [hw1]; exact HH.out.drewN k1
  clear hw1
  obtain ⟨bc, oc, bi, oi, k3, d3, eA, hnx, hk3, hbc, hbi, u3, u5, u6, _, _⟩ := h2.insCells hfbx hpbx
  have hop : insAt (codeD C.x (fb : Int)).2.2.2.1 (pb : Int) = fIns C.x f := by unfold fIns; rw [hcd, hpb]
  rw [hop, hIe] at u5 u6
  obtain ⟨_, _, mv⟩ := h2.mv
  have m0 := mv.m0
  rw [eA] at m0
  obtain ⟨_, _, _, _, _, _, _, _, ho⟩ := h2.opg HJ.out
  have c1 := ho.fv.c1
  have c2 := ho.fv.c2
  rw [hfb] at c1
  rw [hpb] at c2
  have hgl := ho.fv.lt
  have hM3 := mv.lt
  have hgM := ho.fv.gM
  obtain ⟨_, _, hBw⟩ := h2.xs
  have l1 : fb < C.nx := by omega
  have l2 : (fb : Int) < (C.nx : Int) := by omega
  have l3 : pb < k3 := by omega
  have l4 : (pb : Int) < (k3 : Int) := by omega
  have hS := Lib.hid (show ∀ V', Below w1.heap.size w1 V' → V'.cell? ⟨C.M, 0, none⟩ = some (.slice (some ⟨bc, oc, none⟩) C.nx C.cx) ∧ V'.cell? ⟨g, (n - 1) * 11 + 1, none⟩ = some (.int .i64 fb) ∧ V'.cell? ⟨g, (n - 1) * 11 + 2, none⟩ = some (.int .i64 pb) ∧ V'.cell? ⟨bc, oc + fb * 5 + 3, none⟩ = some (.slice (some ⟨bi, oi, none⟩) k3 d3) ∧ V'.cell? ⟨bi, oi + pb * 2, none⟩ = some (.int .i64 9) ∧ V'.cell? ⟨bi, oi + pb * 2 + 1, none⟩ = some (.int .i64 N2) from fun V' hV => ⟨below_cell hV m0, below_cell hV c1, below_cell hV c2, below_cell hV u3, below_cell hV u5, below_cell hV u6⟩)
  have HPB := Lib.hid hpb
  have H2 := Lib.hid h2
  clear mv ho h2 hk3 hnx hcd hpb hfb hop eA hIe hK hN2 m0 c1 c2 u3 u5 u6
  go_upto_region 1 with fail
  obtain ⟨q0, q1, q2, q3, q4, q5⟩ := hS.out w1 (Below.refl _ _)
  go_region_held3 (fun V' => V'.cell? ⟨C.M, 0, none⟩ = some (.slice (some ⟨bc, oc, none⟩) C.nx C.cx) ∧ V'.cell? ⟨g, (n - 1) * 11 + 1, none⟩ = some (.int .i64 fb) ∧ V'.cell? ⟨g, (n - 1) * 11 + 2, none⟩ = some (.int .i64 pb) ∧ V'.cell? ⟨bc, oc + fb * 5 + 3, none⟩ = some (.slice (some ⟨bi, oi, none⟩) k3 d3) ∧ V'.cell? ⟨bi, oi + pb * 2, none⟩ = some (.int .i64 9) ∧ V'.cell? ⟨bi, oi + pb * 2 + 1, none⟩ = some (.int .i64 N2)) (exact hS.out _ (show Below w1.heap.size w1 _ by exact beloA)) (fail)
  obtain ⟨W, hW⟩ : ∃ W, W = (w1.alloc (.cells #[.int .i64 9, .int .i64 N2] 84)).drew := ⟨_, rfl⟩
  have hbW : Below w1.heap.size w1 W := by rw [hW]; exact belA
  have hzW : W.heap.size = w1.heap.size + 1 := by rw [hW]; simp
  have b0 : W.cell? ⟨w1.heap.size, 0, none⟩ = some (.int .i64 9) := by rw [hW]; simp [go_sem]
  have b1 : W.cell? ⟨w1.heap.size, 1, none⟩ = some (.int .i64 N2) := by rw [hW]; simp [go_sem]
  have H3 := Lib.hid (H2.out.apart hbW (Fx := [w1.heap.size]) (fun k hk => by rw [List.mem_singleton.1 hk]; omega))
  have H1 := Lib.hid H3.out.less
  rw [← hW]
  obtain ⟨X, hX⟩ : ∃ X, w1.heap.size = X := ⟨_, rfl⟩
  rw [hX] at H3 hzW b0 b1 ⊢
  have hMX : C.M < X := by omega
  have hgX : g < X := by omega
  clear hW hbW hX H2 hS q0 q1 q2 q3 q4 q5 hgl hM3
  obtain ⟨_, _, _, _, _, _, _, _, ho⟩ := H1.out.opg HJ.out
  have c2 : W.cell? ⟨g, (n - 1) * 11 + 2, none⟩ = some (.int .i64 pb) := by rw [← HPB.out]; exact ho.fv.c2
  have fz2 := ho.fv.fz ((n - 1) * 11 + 2)
  have hgW := ho.fv.lt
  clear ho
  have hp0 : 0 < (fPile f).length := by have := HIW.out.2.1; rw [HIE.out, tk1 (by simp)] at this; omega
  have hsl := small_lastN FW.out.ps
  have hl64 := I64_of hsl
  have HF := Lib.hid (show stepF C.x C.ins C.most s = { s with fs := fGo f ((pb : Int) + 1) (fPile f).dropLast :: rest } by rw [HE.out, HIE.out]; simp [stepI, HPB.out])
  go_wp2_with fail
  refine (specPlain9 C W g n c s f rest pb RR.out.fs HN.out H1.out HJ.out h0 hn1 hnc hcm HPB.out l5 N2 hp0 (by omega)).mono ?_
  rintro e w5 ⟨rfl, h5⟩
  have H5 := Lib.hid h5
  clear h5
  go_wp2_with fail
  go_end0
  exact ⟨rfl, _, HF.out ▸ H5.out⟩
set_option maxHeartbeats 4000000 in
theorem specStep15 (C : Cfg) (w : World) (vf : Value) (s : MS) (f : Frame) (rest : List Frame) (N : Nat) (h : MM C w vf s) (R : Rdy C.x C.ins C.most N s f rest) (hK : (fIns C.x f).1 = 15) :
    Calls Tryz.prog 40 #[.pointer (some ⟨C.M, 0, none⟩)] w (RetN C (stepF C.x C.ins C.most s) w) := by
  obtain ⟨g, n, c, rfl, hn, h0, hnc, hcm, hj⟩ := h.opens R.fs
  have hn1 : n ≤ 1000000 := by have := R.ok.many; omega
  have FW := Lib.hid R.fw
  have HIW := Lib.hid R.insW
  have hpl := R.pile
  have HE := Lib.hid (show stepF C.x C.ins C.most s = stepI C.x C.ins C.most s f rest (fIns C.x f) by unfold stepF; rw [R.fs])
  obtain ⟨N2, hN2⟩ : ∃ N2, (fIns C.x f).2 = N2 := ⟨_, rfl⟩
  have i2 : I64 N2 := hN2 ▸ ins64 R.insW.1
  obtain ⟨fb, hfb⟩ := Int.eq_ofNat_of_zero_le FW.out.fn.1
  obtain ⟨pb, hpb⟩ := Int.eq_ofNat_of_zero_le FW.out.at_.1
  have hfbx : fb < C.x.length := by have := FW.out.fn.2; omega
  have hcd : fCode C.x f = codeD C.x (fb : Int) := by unfold fCode; rw [hfb]
  have hpbx : pb < (codeD C.x (fb : Int)).2.2.2.1.length := by have := FW.out.at_.2; rw [hcd, hpb] at this; omega
  have l5 : pb ≤ 1000000 := by have := FW.out.il; have := FW.out.at_.2; omega
  have l6 : fb ≤ 1000000 := by have := FW.out.xl; omega
  have hIe : fIns C.x f = (15, N2) := by rw [← hK, ← hN2]
  have HIE := Lib.hid hIe
  have HN := Lib.hid hn
  have HJ := Lib.hid hj
  have RR := Lib.hid R
  have HH := Lib.hid h
  clear hn hj R h
  go_enter Tryz.func40, Tryz.ntmps40
  go_wp2_with fail
  refine (specTop C _ g n c s HH.out h0 hn1 hnc hcm).mono ?_
  rintro e w1 ⟨rfl, k1, hw1⟩
  have h2 : MM C w1 (.slice (some ⟨g, 0, none⟩) n c) s := by rw [hw1]; exact HH.out.drewN k1
  clear hw1
  obtain ⟨bc, oc, bi, oi, k3, d3, eA, hnx, hk3, hbc, hbi, u3, u5, u6, _, _⟩ := h2.insCells hfbx hpbx
  have hop : insAt (codeD C.x (fb : Int)).2.2.2.1 (pb : Int) = fIns C.x f := by unfold fIns; rw [hcd, hpb]
  rw [hop, hIe] at u5 u6
  obtain ⟨_, _, mv⟩ := h2.mv
  have m0 := mv.m0
  rw [eA] at m0
  obtain ⟨_, _, _, _, _, _, _, _, ho⟩ := h2.opg HJ.out
  have c1 := ho.fv.c1
  have c2 := ho.fv.c2
  rw [hfb] at c1
  rw [hpb] at c2
  have hgl := ho.fv.lt
  have hM3 := mv.lt
  have hgM := ho.fv.gM
  obtain ⟨_, _, hBw⟩ := h2.xs
  have l1 : fb < C.nx := by omega
  have l2 : (fb : Int) < (C.nx : Int) := by omega
  have l3 : pb < k3 := by omega
  have l4 : (pb : Int) < (k3 : Int) := by omega
  have hS := Lib.hid (show ∀ V', Below w1.heap.size w1 V' → V'.cell? ⟨C.M, 0, none⟩ = some (.slice (some ⟨bc, oc, none⟩) C.nx C.cx) ∧ V'.cell? ⟨g, (n - 1) * 11 + 1, none⟩ = some (.int .i64 fb) ∧ V'.cell? ⟨g, (n - 1) * 11 + 2, none⟩ = some (.int .i64 pb) ∧ V'.cell? ⟨bc, oc + fb * 5 + 3, none⟩ = some (.slice (some ⟨bi, oi, none⟩) k3 d3) ∧ V'.cell? ⟨bi, oi + pb * 2, none⟩ = some (.int .i64 15) ∧ V'.cell? ⟨bi, oi + pb * 2 + 1, none⟩ = some (.int .i64 N2) from fun V' hV => ⟨below_cell hV m0, below_cell hV c1, below_cell hV c2, below_cell hV u3, below_cell hV u5, below_cell hV u6⟩)
  have HPB := Lib.hid hpb
  have H2 := Lib.hid h2
  clear mv ho h2 hk3 hnx hcd hpb hfb hop eA hIe hK hN2 m0 c1 c2 u3 u5 u6
  go_upto_region 1 with fail
  obtain ⟨q0, q1, q2, q3, q4, q5⟩ := hS.out w1 (Below.refl _ _)
  go_region_held3 (fun V' => V'.cell? ⟨C.M, 0, none⟩ = some (.slice (some ⟨bc, oc, none⟩) C.nx C.cx) ∧ V'.cell? ⟨g, (n - 1) * 11 + 1, none⟩ = some (.int .i64 fb) ∧ V'.cell? ⟨g, (n - 1) * 11 + 2, none⟩ = some (.int .i64 pb) ∧ V'.cell? ⟨bc, oc + fb * 5 + 3, none⟩ = some (.slice (some ⟨bi, oi, none⟩) k3 d3) ∧ V'.cell? ⟨bi, oi + pb * 2, none⟩ = some (.int .i64 15) ∧ V'.cell? ⟨bi, oi + pb * 2 + 1, none⟩ = some (.int .i64 N2)) (exact hS.out _ (show Below w1.heap.size w1 _ by exact beloA)) (fail)
  obtain ⟨W, hW⟩ : ∃ W, W = (w1.alloc (.cells #[.int .i64 15, .int .i64 N2] 84)).drew := ⟨_, rfl⟩
  have hbW : Below w1.heap.size w1 W := by rw [hW]; exact belA
  have hzW : W.heap.size = w1.heap.size + 1 := by rw [hW]; simp
  have b0 : W.cell? ⟨w1.heap.size, 0, none⟩ = some (.int .i64 15) := by rw [hW]; simp [go_sem]
  have b1 : W.cell? ⟨w1.heap.size, 1, none⟩ = some (.int .i64 N2) := by rw [hW]; simp [go_sem]
  have H3 := Lib.hid (H2.out.apart hbW (Fx := [w1.heap.size]) (fun k hk => by rw [List.mem_singleton.1 hk]; omega))
  have H1 := Lib.hid H3.out.less
  rw [← hW]
  obtain ⟨X, hX⟩ : ∃ X, w1.heap.size = X := ⟨_, rfl⟩
  rw [hX] at H3 hzW b0 b1 ⊢
  have hMX : C.M < X := by omega
  have hgX : g < X := by omega
  clear hW hbW hX H2 hS q0 q1 q2 q3 q4 q5 hgl hM3
  obtain ⟨_, _, _, _, _, _, _, _, ho⟩ := H1.out.opg HJ.out
  have c2 : W.cell? ⟨g, (n - 1) * 11 + 2, none⟩ = some (.int .i64 pb) := by rw [← HPB.out]; exact ho.fv.c2
  have fz2 := ho.fv.fz ((n - 1) * 11 + 2)
  have hgW := ho.fv.lt
  clear ho
  have hp0 : 0 < (fPile f).length := by have := HIW.out.2.1; rw [HIE.out, tk1 (by simp)] at this; omega
  have hsl := small_lastN FW.out.ps
  have hl64 := I64_of hsl
  have HF := Lib.hid (show stepF C.x C.ins C.most s = { s with fs := fRes (fGo f ((pb : Int) + 1) (fPile f).dropLast) (lastN (fPile f)) :: rest } by rw [HE.out, HIE.out]; simp [stepI, HPB.out])
  go_wp2_with fail
  refine (specPlain15 C W g n c s f rest pb RR.out.fs HN.out H1.out HJ.out h0 hn1 hnc hcm HPB.out l5 N2 hl64 hp0 (by omega)).mono ?_
  rintro e w5 ⟨rfl, h5⟩
  have H5 := Lib.hid h5
  clear h5
  go_wp2_with fail
  go_end0
  exact ⟨rfl, _, HF.out ▸ H5.out⟩
set_option maxHeartbeats 4000000 in
theorem specStep12 (C : Cfg) (w : World) (vf : Value) (s : MS) (f : Frame) (rest : List Frame) (N : Nat) (h : MM C w vf s) (R : Rdy C.x C.ins C.most N s f rest) (hK : (fIns C.x f).1 = 12) :
    Calls Tryz.prog 40 #[.pointer (some ⟨C.M, 0, none⟩)] w (RetN C (stepF C.x C.ins C.most s) w) := by
  obtain ⟨g, n, c, rfl, hn, h0, hnc, hcm, hj⟩ := h.opens R.fs
  have hn1 : n ≤ 1000000 := by have := R.ok.many; omega
  have FW := Lib.hid R.fw
  have HIW := Lib.hid R.insW
  have hpl := R.pile
  have HE := Lib.hid (show stepF C.x C.ins C.most s = stepI C.x C.ins C.most s f rest (fIns C.x f) by unfold stepF; rw [R.fs])
  obtain ⟨N2, hN2⟩ : ∃ N2, (fIns C.x f).2 = N2 := ⟨_, rfl⟩
  have i2 : I64 N2 := hN2 ▸ ins64 R.insW.1
  obtain ⟨fb, hfb⟩ := Int.eq_ofNat_of_zero_le FW.out.fn.1
  obtain ⟨pb, hpb⟩ := Int.eq_ofNat_of_zero_le FW.out.at_.1
  have hfbx : fb < C.x.length := by have := FW.out.fn.2; omega
  have hcd : fCode C.x f = codeD C.x (fb : Int) := by unfold fCode; rw [hfb]
  have hpbx : pb < (codeD C.x (fb : Int)).2.2.2.1.length := by have := FW.out.at_.2; rw [hcd, hpb] at this; omega
  have l5 : pb ≤ 1000000 := by have := FW.out.il; have := FW.out.at_.2; omega
  have l6 : fb ≤ 1000000 := by have := FW.out.xl; omega
  have hIe : fIns C.x f = (12, N2) := by rw [← hK, ← hN2]
  have HIE := Lib.hid hIe
  have HN := Lib.hid hn
  have HJ := Lib.hid hj
  have RR := Lib.hid R
  have HH := Lib.hid h
  clear hn hj R h
  go_enter Tryz.func40, Tryz.ntmps40
  go_wp2_with fail
  refine (specTop C _ g n c s HH.out h0 hn1 hnc hcm).mono ?_
  rintro e w1 ⟨rfl, k1, hw1⟩
  have h2 : MM C w1 (.slice (some ⟨g, 0, none⟩) n c) s := by rw [hw1]; exact HH.out.drewN k1
  clear hw1
  obtain ⟨bc, oc, bi, oi, k3, d3, eA, hnx, hk3, hbc, hbi, u3, u5, u6, _, _⟩ := h2.insCells hfbx hpbx
  have hop : insAt (codeD C.x (fb : Int)).2.2.2.1 (pb : Int) = fIns C.x f := by unfold fIns; rw [hcd, hpb]
  rw [hop, hIe] at u5 u6
  obtain ⟨_, _, mv⟩ := h2.mv
  have m0 := mv.m0
  rw [eA] at m0
  obtain ⟨_, _, _, _, _, _, _, _, ho⟩ := h2.opg HJ.out
  have c1 := ho.fv.c1
  have c2 := ho.fv.c2
  rw [hfb] at c1
  rw [hpb] at c2
  have hgl := ho.fv.lt
  have hM3 := mv.lt
  have hgM := ho.fv.gM
  obtain ⟨_, _, hBw⟩ := h2.xs
  have l1 : fb < C.nx := by omega
  have l2 : (fb : Int) < (C.nx : Int) := by omega
  have l3 : pb < k3 := by omega
  have l4 : (pb : Int) < (k3 : Int) := by omega
  have hS := Lib.hid (show ∀ V', Below w1.heap.size w1 V' → V'.cell? ⟨C.M, 0, none⟩ = some (.slice (some ⟨bc, oc, none⟩) C.nx C.cx) ∧ V'.cell? ⟨g, (n - 1) * 11 + 1, none⟩ = some (.int .i64 fb) ∧ V'.cell? ⟨g, (n - 1) * 11 + 2, none⟩ = some (.int .i64 pb) ∧ V'.cell? ⟨bc, oc + fb * 5 + 3, none⟩ = some (.slice (some ⟨bi, oi, none⟩) k3 d3) ∧ V'.cell? ⟨bi, oi + pb * 2, none⟩ = some (.int .i64 12) ∧ V'.cell? ⟨bi, oi + pb * 2 + 1, none⟩ = some (.int .i64 N2) from fun V' hV => ⟨below_cell hV m0, below_cell hV c1, below_cell hV c2, below_cell hV u3, below_cell hV u5, below_cell hV u6⟩)
  have HPB := Lib.hid hpb
  have H2 := Lib.hid h2
  clear mv ho h2 hk3 hnx hcd hpb hfb hop eA hIe hK hN2 m0 c1 c2 u3 u5 u6
  go_upto_region 1 with fail
  obtain ⟨q0, q1, q2, q3, q4, q5⟩ := hS.out w1 (Below.refl _ _)
  go_region_held3 (fun V' => V'.cell? ⟨C.M, 0, none⟩ = some (.slice (some ⟨bc, oc, none⟩) C.nx C.cx) ∧ V'.cell? ⟨g, (n - 1) * 11 + 1, none⟩ = some (.int .i64 fb) ∧ V'.cell? ⟨g, (n - 1) * 11 + 2, none⟩ = some (.int .i64 pb) ∧ V'.cell? ⟨bc, oc + fb * 5 + 3, none⟩ = some (.slice (some ⟨bi, oi, none⟩) k3 d3) ∧ V'.cell? ⟨bi, oi + pb * 2, none⟩ = some (.int .i64 12) ∧ V'.cell? ⟨bi, oi + pb * 2 + 1, none⟩ = some (.int .i64 N2)) (exact hS.out _ (show Below w1.heap.size w1 _ by exact beloA)) (fail)
  obtain ⟨W, hW⟩ : ∃ W, W = (w1.alloc (.cells #[.int .i64 12, .int .i64 N2] 84)).drew := ⟨_, rfl⟩
  have hbW : Below w1.heap.size w1 W := by rw [hW]; exact belA
  have hzW : W.heap.size = w1.heap.size + 1 := by rw [hW]; simp
  have b0 : W.cell? ⟨w1.heap.size, 0, none⟩ = some (.int .i64 12) := by rw [hW]; simp [go_sem]
  have b1 : W.cell? ⟨w1.heap.size, 1, none⟩ = some (.int .i64 N2) := by rw [hW]; simp [go_sem]
  have H3 := Lib.hid (H2.out.apart hbW (Fx := [w1.heap.size]) (fun k hk => by rw [List.mem_singleton.1 hk]; omega))
  have H1 := Lib.hid H3.out.less
  rw [← hW]
  obtain ⟨X, hX⟩ : ∃ X, w1.heap.size = X := ⟨_, rfl⟩
  rw [hX] at H3 hzW b0 b1 ⊢
  have hMX : C.M < X := by omega
  have hgX : g < X := by omega
  clear hW hbW hX H2 hS q0 q1 q2 q3 q4 q5 hgl hM3
  obtain ⟨_, _, _, _, _, _, _, _, ho⟩ := H1.out.opg HJ.out
  have c2 : W.cell? ⟨g, (n - 1) * 11 + 2, none⟩ = some (.int .i64 pb) := by rw [← HPB.out]; exact ho.fv.c2
  have fz2 := ho.fv.fz ((n - 1) * 11 + 2)
  have hgW := ho.fv.lt
  clear ho
  obtain ⟨k, hk2, hkl, hks⟩ := RR.out.site (by rw [HIE.out]; simp)
  obtain rfl : N2 = (k : Int) := by rw [HIE.out] at hk2; exact hk2
  have hk6 : k ≤ 1000000 := by have := FW.out.sl; omega
  have i1 := I64_of FW.out.id
  have hno : s.notes.length ≤ 4000000 := by have := RR.out.ok.notes; have := RR.out.hN; omega
  have HF := Lib.hid (show stepF C.x C.ins C.most s = { s with fs := fFlags (fGo f ((pb : Int) + 1) (fPile f)) (f.2.2.2.2.2.1.set k true) :: rest, notes := s.notes ++ [(1, f.1, (k : Int))] } by rw [HE.out, HIE.out]; simp [stepI, HPB.out])
  go_wp2_with fail
  refine (specPlain12 C W g n c s f rest pb RR.out.fs HN.out H1.out HJ.out h0 hn1 hnc hcm HPB.out l5 k hkl hk6 i1 hno).mono ?_
  rintro e w5 ⟨rfl, h5⟩
  have H5 := Lib.hid h5
  clear h5
  go_wp2_with fail
  go_end0
  exact ⟨rfl, _, HF.out ▸ H5.out⟩
set_option maxHeartbeats 4000000 in
theorem specStep8 (C : Cfg) (w : World) (vf : Value) (s : MS) (f : Frame) (rest : List Frame) (N : Nat) (h : MM C w vf s) (R : Rdy C.x C.ins C.most N s f rest) (hK : (fIns C.x f).1 = 8) :
    Calls Tryz.prog 40 #[.pointer (some ⟨C.M, 0, none⟩)] w (RetN C (stepF C.x C.ins C.most s) w) := by
  obtain ⟨g, n, c, rfl, hn, h0, hnc, hcm, hj⟩ := h.opens R.fs
  have hn1 : n ≤ 1000000 := by have := R.ok.many; omega
  have FW := Lib.hid R.fw
  have HIW := Lib.hid R.insW
  have hpl := R.pile
  have HE := Lib.hid (show stepF C.x C.ins C.most s = stepI C.x C.ins C.most s f rest (fIns C.x f) by unfold stepF; rw [R.fs])
  obtain ⟨N2, hN2⟩ : ∃ N2, (fIns C.x f).2 = N2 := ⟨_, rfl⟩
  have i2 : I64 N2 := hN2 ▸ ins64 R.insW.1
  obtain ⟨fb, hfb⟩ := Int.eq_ofNat_of_zero_le FW.out.fn.1
  obtain ⟨pb, hpb⟩ := Int.eq_ofNat_of_zero_le FW.out.at_.1
  have hfbx : fb < C.x.length := by have := FW.out.fn.2; omega
  have hcd : fCode C.x f = codeD C.x (fb : Int) := by unfold fCode; rw [hfb]
  have hpbx : pb < (codeD C.x (fb : Int)).2.2.2.1.length := by have := FW.out.at_.2; rw [hcd, hpb] at this; omega
  have l5 : pb ≤ 1000000 := by have := FW.out.il; have := FW.out.at_.2; omega
  have l6 : fb ≤ 1000000 := by have := FW.out.xl; omega
  have hIe : fIns C.x f = (8, N2) := by rw [← hK, ← hN2]
  have HIE := Lib.hid hIe
  have HN := Lib.hid hn
  have HJ := Lib.hid hj
  have RR := Lib.hid R
  have HH := Lib.hid h
  clear hn hj R h
  go_enter Tryz.func40, Tryz.ntmps40
  go_wp2_with fail
  refine (specTop C _ g n c s HH.out h0 hn1 hnc hcm).mono ?_
  rintro e w1 ⟨rfl, k1, hw1⟩
  have h2 : MM C w1 (.slice (some ⟨g, 0, none⟩) n c) s := by rw [hw1]; exact HH.out.drewN k1
  clear hw1
  obtain ⟨bc, oc, bi, oi, k3, d3, eA, hnx, hk3, hbc, hbi, u3, u5, u6, _, _⟩ := h2.insCells hfbx hpbx
  have hop : insAt (codeD C.x (fb : Int)).2.2.2.1 (pb : Int) = fIns C.x f := by unfold fIns; rw [hcd, hpb]
  rw [hop, hIe] at u5 u6
  obtain ⟨_, _, mv⟩ := h2.mv
  have m0 := mv.m0
  rw [eA] at m0
  obtain ⟨_, _, _, _, _, _, _, _, ho⟩ := h2.opg HJ.out
  have c1 := ho.fv.c1
  have c2 := ho.fv.c2
  rw [hfb] at c1
  rw [hpb] at c2
  have hgl := ho.fv.lt
  have hM3 := mv.lt
  have hgM := ho.fv.gM
  obtain ⟨_, _, hBw⟩ := h2.xs
  have l1 : fb < C.nx := by omega
  have l2 : (fb : Int) < (C.nx : Int) := by omega
  have l3 : pb < k3 := by omega
  have l4 : (pb : Int) < (k3 : Int) := by omega
  have hS := Lib.hid (show ∀ V', Below w1.heap.size w1 V' → V'.cell? ⟨C.M, 0, none⟩ = some (.slice (some ⟨bc, oc, none⟩) C.nx C.cx) ∧ V'.cell? ⟨g, (n - 1) * 11 + 1, none⟩ = some (.int .i64 fb) ∧ V'.cell? ⟨g, (n - 1) * 11 + 2, none⟩ = some (.int .i64 pb) ∧ V'.cell? ⟨bc, oc + fb * 5 + 3, none⟩ = some (.slice (some ⟨bi, oi, none⟩) k3 d3) ∧ V'.cell? ⟨bi, oi + pb * 2, none⟩ = some (.int .i64 8) ∧ V'.cell? ⟨bi, oi + pb * 2 + 1, none⟩ = some (.int .i64 N2) from fun V' hV => ⟨below_cell hV m0, below_cell hV c1, below_cell hV c2, below_cell hV u3, below_cell hV u5, below_cell hV u6⟩)
  have HPB := Lib.hid hpb
  have H2 := Lib.hid h2
  clear mv ho h2 hk3 hnx hcd hpb hfb hop eA hIe hK hN2 m0 c1 c2 u3 u5 u6
  go_upto_region 1 with fail
  obtain ⟨q0, q1, q2, q3, q4, q5⟩ := hS.out w1 (Below.refl _ _)
  go_region_held3 (fun V' => V'.cell? ⟨C.M, 0, none⟩ = some (.slice (some ⟨bc, oc, none⟩) C.nx C.cx) ∧ V'.cell? ⟨g, (n - 1) * 11 + 1, none⟩ = some (.int .i64 fb) ∧ V'.cell? ⟨g, (n - 1) * 11 + 2, none⟩ = some (.int .i64 pb) ∧ V'.cell? ⟨bc, oc + fb * 5 + 3, none⟩ = some (.slice (some ⟨bi, oi, none⟩) k3 d3) ∧ V'.cell? ⟨bi, oi + pb * 2, none⟩ = some (.int .i64 8) ∧ V'.cell? ⟨bi, oi + pb * 2 + 1, none⟩ = some (.int .i64 N2)) (exact hS.out _ (show Below w1.heap.size w1 _ by exact beloA)) (fail)
  obtain ⟨W, hW⟩ : ∃ W, W = (w1.alloc (.cells #[.int .i64 8, .int .i64 N2] 84)).drew := ⟨_, rfl⟩
  have hbW : Below w1.heap.size w1 W := by rw [hW]; exact belA
  have hzW : W.heap.size = w1.heap.size + 1 := by rw [hW]; simp
  have b0 : W.cell? ⟨w1.heap.size, 0, none⟩ = some (.int .i64 8) := by rw [hW]; simp [go_sem]
  have b1 : W.cell? ⟨w1.heap.size, 1, none⟩ = some (.int .i64 N2) := by rw [hW]; simp [go_sem]
  have H3 := Lib.hid (H2.out.apart hbW (Fx := [w1.heap.size]) (fun k hk => by rw [List.mem_singleton.1 hk]; omega))
  have H1 := Lib.hid H3.out.less
  rw [← hW]
  obtain ⟨X, hX⟩ : ∃ X, w1.heap.size = X := ⟨_, rfl⟩
  rw [hX] at H3 hzW b0 b1 ⊢
  have hMX : C.M < X := by omega
  have hgX : g < X := by omega
  clear hW hbW hX H2 hS q0 q1 q2 q3 q4 q5 hgl hM3
  obtain ⟨_, _, _, _, _, _, _, _, ho⟩ := H1.out.opg HJ.out
  have c2 : W.cell? ⟨g, (n - 1) * 11 + 2, none⟩ = some (.int .i64 pb) := by rw [← HPB.out]; exact ho.fv.c2
  have fz2 := ho.fv.fz ((n - 1) * 11 + 2)
  have hgW := ho.fv.lt
  clear ho
  have hp0 : 0 < (fPile f).length := by have := HIW.out.2.1; rw [HIE.out, tk1 (by simp)] at this; omega
  have hsl := small_lastN FW.out.ps
  have hl64 := I64_of hsl
  have htr : s.tr.length ≤ 4000000 := by have := RR.out.ok.tr; have := RR.out.hN; omega
  have HF := Lib.hid (show stepF C.x C.ins C.most s = { s with fs := fGo f ((pb : Int) + 1) (fPile f).dropLast :: rest, tr := s.tr ++ [lastN (fPile f)] } by rw [HE.out, HIE.out]; simp [stepI, HPB.out])
  go_wp2_with fail
  refine (specPlain8 C W g n c s f rest pb RR.out.fs HN.out H1.out HJ.out h0 hn1 hnc hcm HPB.out l5 N2 hl64 htr hp0 (by omega)).mono ?_
  rintro e w5 ⟨rfl, h5⟩
  have H5 := Lib.hid h5
  clear h5
  go_wp2_with fail
  go_end0
  exact ⟨rfl, _, HF.out ▸ H5.out⟩
set_option maxHeartbeats 4000000 in
theorem specStep5 (C : Cfg) (w : World) (vf : Value) (s : MS) (f : Frame) (rest : List Frame) (N : Nat) (h : MM C w vf s) (R : Rdy C.x C.ins C.most N s f rest) (hK : (fIns C.x f).1 = 5) :
    Calls Tryz.prog 40 #[.pointer (some ⟨C.M, 0, none⟩)] w (RetN C (stepF C.x C.ins C.most s) w) := by
  obtain ⟨g, n, c, rfl, hn, h0, hnc, hcm, hj⟩ := h.opens R.fs
  have hn1 : n ≤ 1000000 := by have := R.ok.many; omega
  have FW := Lib.hid R.fw
  have HIW := Lib.hid R.insW
  have hpl := R.pile
  have HE := Lib.hid (show stepF C.x C.ins C.most s = stepI C.x C.ins C.most s f rest (fIns C.x f) by unfold stepF; rw [R.fs])
  obtain ⟨N2, hN2⟩ : ∃ N2, (fIns C.x f).2 = N2 := ⟨_, rfl⟩
  have i2 : I64 N2 := hN2 ▸ ins64 R.insW.1
  obtain ⟨fb, hfb⟩ := Int.eq_ofNat_of_zero_le FW.out.fn.1
  obtain ⟨pb, hpb⟩ := Int.eq_ofNat_of_zero_le FW.out.at_.1
  have hfbx : fb < C.x.length := by have := FW.out.fn.2; omega
  have hcd : fCode C.x f = codeD C.x (fb : Int) := by unfold fCode; rw [hfb]
  have hpbx : pb < (codeD C.x (fb : Int)).2.2.2.1.length := by have := FW.out.at_.2; rw [hcd, hpb] at this; omega
  have l5 : pb ≤ 1000000 := by have := FW.out.il; have := FW.out.at_.2; omega
  have l6 : fb ≤ 1000000 := by have := FW.out.xl; omega
  have hIe : fIns C.x f = (5, N2) := by rw [← hK, ← hN2]
  have HIE := Lib.hid hIe
  have HN := Lib.hid hn
  have HJ := Lib.hid hj
  have RR := Lib.hid R
  have HH := Lib.hid h
  clear hn hj R h
  go_enter Tryz.func40, Tryz.ntmps40
  go_wp2_with fail
  refine (specTop C _ g n c s HH.out h0 hn1 hnc hcm).mono ?_
  rintro e w1 ⟨rfl, k1, hw1⟩
  have h2 : MM C w1 (.slice (some ⟨g, 0, none⟩) n c) s := by rw [hw1]; exact HH.out.drewN k1
  clear hw1
  obtain ⟨bc, oc, bi, oi, k3, d3, eA, hnx, hk3, hbc, hbi, u3, u5, u6, _, _⟩ := h2.insCells hfbx hpbx
  have hop : insAt (codeD C.x (fb : Int)).2.2.2.1 (pb : Int) = fIns C.x f := by unfold fIns; rw [hcd, hpb]
  rw [hop, hIe] at u5 u6
  obtain ⟨_, _, mv⟩ := h2.mv
  have m0 := mv.m0
  rw [eA] at m0
  obtain ⟨_, _, _, _, _, _, _, _, ho⟩ := h2.opg HJ.out
  have c1 := ho.fv.c1
  have c2 := ho.fv.c2
  rw [hfb] at c1
  rw [hpb] at c2
  have hgl := ho.fv.lt
  have hM3 := mv.lt
  have hgM := ho.fv.gM
  obtain ⟨_, _, hBw⟩ := h2.xs
  have l1 : fb < C.nx := by omega
  have l2 : (fb : Int) < (C.nx : Int) := by omega
  have l3 : pb < k3 := by omega
  have l4 : (pb : Int) < (k3 : Int) := by omega
  have hS := Lib.hid (show ∀ V', Below w1.heap.size w1 V' → V'.cell? ⟨C.M, 0, none⟩ = some (.slice (some ⟨bc, oc, none⟩) C.nx C.cx) ∧ V'.cell? ⟨g, (n - 1) * 11 + 1, none⟩ = some (.int .i64 fb) ∧ V'.cell? ⟨g, (n - 1) * 11 + 2, none⟩ = some (.int .i64 pb) ∧ V'.cell? ⟨bc, oc + fb * 5 + 3, none⟩ = some (.slice (some ⟨bi, oi, none⟩) k3 d3) ∧ V'.cell? ⟨bi, oi + pb * 2, none⟩ = some (.int .i64 5) ∧ V'.cell? ⟨bi, oi + pb * 2 + 1, none⟩ = some (.int .i64 N2) from fun V' hV => ⟨below_cell hV m0, below_cell hV c1, below_cell hV c2, below_cell hV u3, below_cell hV u5, below_cell hV u6⟩)
  have HPB := Lib.hid hpb
  have H2 := Lib.hid h2
  clear mv ho h2 hk3 hnx hcd hpb hfb hop eA hIe hK hN2 m0 c1 c2 u3 u5 u6
  go_upto_region 1 with fail
  obtain ⟨q0, q1, q2, q3, q4, q5⟩ := hS.out w1 (Below.refl _ _)
  go_region_held3 (fun V' => V'.cell? ⟨C.M, 0, none⟩ = some (.slice (some ⟨bc, oc, none⟩) C.nx C.cx) ∧ V'.cell? ⟨g, (n - 1) * 11 + 1, none⟩ = some (.int .i64 fb) ∧ V'.cell? ⟨g, (n - 1) * 11 + 2, none⟩ = some (.int .i64 pb) ∧ V'.cell? ⟨bc, oc + fb * 5 + 3, none⟩ = some (.slice (some ⟨bi, oi, none⟩) k3 d3) ∧ V'.cell? ⟨bi, oi + pb * 2, none⟩ = some (.int .i64 5) ∧ V'.cell? ⟨bi, oi + pb * 2 + 1, none⟩ = some (.int .i64 N2)) (exact hS.out _ (show Below w1.heap.size w1 _ by exact beloA)) (fail)
  obtain ⟨W, hW⟩ : ∃ W, W = (w1.alloc (.cells #[.int .i64 5, .int .i64 N2] 84)).drew := ⟨_, rfl⟩
  have hbW : Below w1.heap.size w1 W := by rw [hW]; exact belA
  have hzW : W.heap.size = w1.heap.size + 1 := by rw [hW]; simp
  have b0 : W.cell? ⟨w1.heap.size, 0, none⟩ = some (.int .i64 5) := by rw [hW]; simp [go_sem]
  have b1 : W.cell? ⟨w1.heap.size, 1, none⟩ = some (.int .i64 N2) := by rw [hW]; simp [go_sem]
  have H3 := Lib.hid (H2.out.apart hbW (Fx := [w1.heap.size]) (fun k hk => by rw [List.mem_singleton.1 hk]; omega))
  have H1 := Lib.hid H3.out.less
  rw [← hW]
  obtain ⟨X, hX⟩ : ∃ X, w1.heap.size = X := ⟨_, rfl⟩
  rw [hX] at H3 hzW b0 b1 ⊢
  have hMX : C.M < X := by omega
  have hgX : g < X := by omega
  clear hW hbW hX H2 hS q0 q1 q2 q3 q4 q5 hgl hM3
  obtain ⟨_, _, _, _, _, _, _, _, ho⟩ := H1.out.opg HJ.out
  have c2 : W.cell? ⟨g, (n - 1) * 11 + 2, none⟩ = some (.int .i64 pb) := by rw [← HPB.out]; exact ho.fv.c2
  have fz2 := ho.fv.fz ((n - 1) * 11 + 2)
  have hgW := ho.fv.lt
  clear ho
  by_cases hu : s.used < C.ins.length
  · have HG5 := Lib.hid (I64_of (small_getD RR.out.insm s.used))
    obtain ⟨y, hy⟩ : ∃ y, C.ins.getD s.used 0 = y := ⟨_, rfl⟩
    have iy : I64 y := hy ▸ HG5.out
    have HF := Lib.hid (show stepF C.x C.ins C.most s = { s with fs := fGo f ((pb : Int) + 1) (fPile f ++ [y]) :: rest, used := s.used + 1 } by rw [HE.out, HIE.out]; unfold stepI; simp only; rw [if_neg (by decide), if_neg (by decide), if_neg (by decide), if_neg (by decide), if_pos trivial, if_pos hu, hy, HPB.out])
    go_wp2_with fail
    refine (specPlain5a C W g n c s f rest pb RR.out.fs HN.out H1.out HJ.out h0 hn1 hnc hcm HPB.out l5 N2 hu y hy iy (by omega)).mono ?_
    rintro e w5 ⟨rfl, h5⟩
    have H5 := Lib.hid h5
    clear h5
    go_wp2_with fail
    go_end0
    exact ⟨rfl, _, HF.out ▸ H5.out⟩
  · have HF := Lib.hid (show stepF C.x C.ins C.most s = { s with fs := fGo f ((pb : Int) + 1) (fPile f ++ [0]) :: rest } by rw [HE.out, HIE.out]; simp [stepI, HPB.out, hu])
    go_wp2_with fail
    refine (specPlain5b C W g n c s f rest pb RR.out.fs HN.out H1.out HJ.out h0 hn1 hnc hcm HPB.out l5 N2 (by omega) (by omega)).mono ?_
    rintro e w5 ⟨rfl, h5⟩
    have H5 := Lib.hid h5
    clear h5
    go_wp2_with fail
    go_end0
    exact ⟨rfl, _, HF.out ▸ H5.out⟩
set_option maxHeartbeats 4000000 in
theorem specStep6 (C : Cfg) (w : World) (vf : Value) (s : MS) (f : Frame) (rest : List Frame) (N : Nat) (h : MM C w vf s) (R : Rdy C.x C.ins C.most N s f rest) (hK : (fIns C.x f).1 = 6) :
    Calls Tryz.prog 40 #[.pointer (some ⟨C.M, 0, none⟩)] w (RetN C (stepF C.x C.ins C.most s) w) := by
  obtain ⟨g, n, c, rfl, hn, h0, hnc, hcm, hj⟩ := h.opens R.fs
  have hn1 : n ≤ 1000000 := by have := R.ok.many; omega
  have FW := Lib.hid R.fw
  have HIW := Lib.hid R.insW
  have hpl := R.pile
  have HE := Lib.hid (show stepF C.x C.ins C.most s = stepI C.x C.ins C.most s f rest (fIns C.x f) by unfold stepF; rw [R.fs])
  obtain ⟨N2, hN2⟩ : ∃ N2, (fIns C.x f).2 = N2 := ⟨_, rfl⟩
  have i2 : I64 N2 := hN2 ▸ ins64 R.insW.1
  obtain ⟨fb, hfb⟩ := Int.eq_ofNat_of_zero_le FW.out.fn.1
  obtain ⟨pb, hpb⟩ := Int.eq_ofNat_of_zero_le FW.out.at_.1
  have hfbx : fb < C.x.length := by have := FW.out.fn.2; omega
  have hcd : fCode C.x f = codeD C.x (fb : Int) := by unfold fCode; rw [hfb]
  have hpbx : pb < (codeD C.x (fb : Int)).2.2.2.1.length := by have := FW.out.at_.2; rw [hcd, hpb] at this; omega
  have l5 : pb ≤ 1000000 := by have := FW.out.il; have := FW.out.at_.2; omega
  have l6 : fb ≤ 1000000 := by have := FW.out.xl; omega
  have hIe : fIns C.x f = (6, N2) := by rw [← hK, ← hN2]
  have HIE := Lib.hid hIe
  have HN := Lib.hid hn
  have HJ := Lib.hid hj
  have RR := Lib.hid R
  have HH := Lib.hid h
  clear hn hj R h
  go_enter Tryz.func40, Tryz.ntmps40
  go_wp2_with fail
  refine (specTop C _ g n c s HH.out h0 hn1 hnc hcm).mono ?_
  rintro e w1 ⟨rfl, k1, hw1⟩
  have h2 : MM C w1 (.slice (some ⟨g, 0, none⟩) n c) s := by rw [hw1]; exact HH.out.drewN k1
  clear hw1
  obtain ⟨bc, oc, bi, oi, k3, d3, eA, hnx, hk3, hbc, hbi, u3, u5, u6, _, _⟩ := h2.insCells hfbx hpbx
  have hop : insAt (codeD C.x (fb : Int)).2.2.2.1 (pb : Int) = fIns C.x f := by unfold fIns; rw [hcd, hpb]
  rw [hop, hIe] at u5 u6
  obtain ⟨_, _, mv⟩ := h2.mv
  have m0 := mv.m0
  rw [eA] at m0
  obtain ⟨_, _, _, _, _, _, _, _, ho⟩ := h2.opg HJ.out
  have c1 := ho.fv.c1
  have c2 := ho.fv.c2
  rw [hfb] at c1
  rw [hpb] at c2
  have hgl := ho.fv.lt
  have hM3 := mv.lt
  have hgM := ho.fv.gM
  obtain ⟨_, _, hBw⟩ := h2.xs
  have l1 : fb < C.nx := by omega
  have l2 : (fb : Int) < (C.nx : Int) := by omega
  have l3 : pb < k3 := by omega
  have l4 : (pb : Int) < (k3 : Int) := by omega
  have hS := Lib.hid (show ∀ V', Below w1.heap.size w1 V' → V'.cell? ⟨C.M, 0, none⟩ = some (.slice (some ⟨bc, oc, none⟩) C.nx C.cx) ∧ V'.cell? ⟨g, (n - 1) * 11 + 1, none⟩ = some (.int .i64 fb) ∧ V'.cell? ⟨g, (n - 1) * 11 + 2, none⟩ = some (.int .i64 pb) ∧ V'.cell? ⟨bc, oc + fb * 5 + 3, none⟩ = some (.slice (some ⟨bi, oi, none⟩) k3 d3) ∧ V'.cell? ⟨bi, oi + pb * 2, none⟩ = some (.int .i64 6) ∧ V'.cell? ⟨bi, oi + pb * 2 + 1, none⟩ = some (.int .i64 N2) from fun V' hV => ⟨below_cell hV m0, below_cell hV c1, below_cell hV c2, below_cell hV u3, below_cell hV u5, below_cell hV u6⟩)
  have HPB := Lib.hid hpb
  have H2 := Lib.hid h2
  clear mv ho h2 hk3 hnx hcd hpb hfb hop eA hIe hK hN2 m0 c1 c2 u3 u5 u6
  go_upto_region 1 with fail
  obtain ⟨q0, q1, q2, q3, q4, q5⟩ := hS.out w1 (Below.refl _ _)
  go_region_held3 (fun V' => V'.cell? ⟨C.M, 0, none⟩ = some (.slice (some ⟨bc, oc, none⟩) C.nx C.cx) ∧ V'.cell? ⟨g, (n - 1) * 11 + 1, none⟩ = some (.int .i64 fb) ∧ V'.cell? ⟨g, (n - 1) * 11 + 2, none⟩ = some (.int .i64 pb) ∧ V'.cell? ⟨bc, oc + fb * 5 + 3, none⟩ = some (.slice (some ⟨bi, oi, none⟩) k3 d3) ∧ V'.cell? ⟨bi, oi + pb * 2, none⟩ = some (.int .i64 6) ∧ V'.cell? ⟨bi, oi + pb * 2 + 1, none⟩ = some (.int .i64 N2)) (exact hS.out _ (show Below w1.heap.size w1 _ by exact beloA)) (fail)
  obtain ⟨W, hW⟩ : ∃ W, W = (w1.alloc (.cells #[.int .i64 6, .int .i64 N2] 84)).drew := ⟨_, rfl⟩
  have hbW : Below w1.heap.size w1 W := by rw [hW]; exact belA
  have hzW : W.heap.size = w1.heap.size + 1 := by rw [hW]; simp
  have b0 : W.cell? ⟨w1.heap.size, 0, none⟩ = some (.int .i64 6) := by rw [hW]; simp [go_sem]
  have b1 : W.cell? ⟨w1.heap.size, 1, none⟩ = some (.int .i64 N2) := by rw [hW]; simp [go_sem]
  have H3 := Lib.hid (H2.out.apart hbW (Fx := [w1.heap.size]) (fun k hk => by rw [List.mem_singleton.1 hk]; omega))
  have H1 := Lib.hid H3.out.less
  rw [← hW]
  obtain ⟨X, hX⟩ : ∃ X, w1.heap.size = X := ⟨_, rfl⟩
  rw [hX] at H3 hzW b0 b1 ⊢
  have hMX : C.M < X := by omega
  have hgX : g < X := by omega
  clear hW hbW hX H2 hS q0 q1 q2 q3 q4 q5 hgl hM3
  obtain ⟨_, _, _, _, _, _, _, _, ho⟩ := H1.out.opg HJ.out
  have c2 : W.cell? ⟨g, (n - 1) * 11 + 2, none⟩ = some (.int .i64 pb) := by rw [← HPB.out]; exact ho.fv.c2
  have fz2 := ho.fv.fz ((n - 1) * 11 + 2)
  have hgW := ho.fv.lt
  clear ho
  by_cases hoff : frOff f = true
  · cases rest with
    | nil =>
      have := RR.out.stk
      rw [hoff] at this
      exact absurd this (by simp [StackOk])
    | cons b r =>
      have hn2 : 2 ≤ n := by have := HN.out; rw [RR.out.fs] at this; simp at this; omega
      have hjb : s.fs.reverse[n - 2]? = some b := MS.get_snd RR.out.fs HN.out
      have FB := frW RR.out.hg RR.out.stk.1.1
      by_cases hmd : modeOf b = 2
      · have ib : I64 (baseOf b) := by have := FB.bs; unfold I64; omega
        have HF := Lib.hid (show stepF C.x C.ins C.most s = { s with fs := fGo f ((pb : Int) + 1) (fPile f ++ [valOf b]) :: fMode b (baseOf b) :: r } by rw [HE.out, HIE.out]; simp [stepI, HPB.out, hoff, hmd])
        go_wp2_with fail
        refine (specPlain6c C W g n c s f (b :: r) pb RR.out.fs HN.out H1.out HJ.out h0 hn1 hnc hcm HPB.out l5 N2 hoff hn2 b hjb hmd (I64_of FB.vo) ib r rfl (by omega)).mono ?_
        rintro e w5 ⟨rfl, h5⟩
        have H5 := Lib.hid h5
        clear h5
        go_wp2_with fail
        go_end0
        exact ⟨rfl, _, HF.out ▸ H5.out⟩
      · have HF := Lib.hid (show stepF C.x C.ins C.most s = { s with fs := fGo f ((pb : Int) + 1) (fPile f ++ [0]) :: b :: r } by rw [HE.out, HIE.out]; simp [stepI, HPB.out, hmd])
        go_wp2_with fail
        refine (specPlain6b C W g n c s f (b :: r) pb RR.out.fs HN.out H1.out HJ.out h0 hn1 hnc hcm HPB.out l5 N2 hoff hn2 b hjb hmd (by omega)).mono ?_
        rintro e w5 ⟨rfl, h5⟩
        have H5 := Lib.hid h5
        clear h5
        go_wp2_with fail
        go_end0
        exact ⟨rfl, _, HF.out ▸ H5.out⟩
  · have HF := Lib.hid (show stepF C.x C.ins C.most s = { s with fs := fGo f ((pb : Int) + 1) (fPile f ++ [0]) :: rest } by rw [HE.out, HIE.out]; cases rest <;> simp [stepI, HPB.out, hoff])
    go_wp2_with fail
    refine (specPlain6a C W g n c s f rest pb RR.out.fs HN.out H1.out HJ.out h0 hn1 hnc hcm HPB.out l5 N2 (by simpa using hoff) (by omega)).mono ?_
    rintro e w5 ⟨rfl, h5⟩
    have H5 := Lib.hid h5
    clear h5
    go_wp2_with fail
    go_end0
    exact ⟨rfl, _, HF.out ▸ H5.out⟩
end Go.Proofs.YtgdeclmciflmpaaGreat

/- One step of the reference's machine: walks. Printed by steps8gen.py. -/
set_option linter.unusedVariables false
set_option linter.unusedSimpArgs false
set_option maxRecDepth 100000
namespace Go.Proofs.YtgdeclmciflmpaaGreat
open Go.RowKit
attribute [local irreducible] wpList
set_option maxHeartbeats 4000000 in
theorem specStep10 (C : Cfg) (w : World) (vf : Value) (s : MS) (f : Frame) (rest : List Frame) (N : Nat) (h : MM C w vf s) (R : Rdy C.x C.ins C.most N s f rest) (hK : (fIns C.x f).1 = 10) :
    Calls Tryz.prog 40 #[.pointer (some ⟨C.M, 0, none⟩)] w (RetN C (stepF C.x C.ins C.most s) w) := by
  obtain ⟨g, n, c, rfl, hn, h0, hnc, hcm, hj⟩ := h.opens R.fs
  have hn1 : n ≤ 1000000 := by have := R.ok.many; omega
  have FW := Lib.hid R.fw
  have HIW := Lib.hid R.insW
  have hpl := R.pile
  have HE := Lib.hid (show stepF C.x C.ins C.most s = stepI C.x C.ins C.most s f rest (fIns C.x f) by unfold stepF; rw [R.fs])
  obtain ⟨N2, hN2⟩ : ∃ N2, (fIns C.x f).2 = N2 := ⟨_, rfl⟩
  have i2 : I64 N2 := hN2 ▸ ins64 R.insW.1
  obtain ⟨fb, hfb⟩ := Int.eq_ofNat_of_zero_le FW.out.fn.1
  obtain ⟨pb, hpb⟩ := Int.eq_ofNat_of_zero_le FW.out.at_.1
  have hfbx : fb < C.x.length := by have := FW.out.fn.2; omega
  have hcd : fCode C.x f = codeD C.x (fb : Int) := by unfold fCode; rw [hfb]
  have hpbx : pb < (codeD C.x (fb : Int)).2.2.2.1.length := by have := FW.out.at_.2; rw [hcd, hpb] at this; omega
  have l5 : pb ≤ 1000000 := by have := FW.out.il; have := FW.out.at_.2; omega
  have l6 : fb ≤ 1000000 := by have := FW.out.xl; omega
  have hIe : fIns C.x f = (10, N2) := by rw [← hK, ← hN2]
  have HIE := Lib.hid hIe
  have HN := Lib.hid hn
  have HJ := Lib.hid hj
  have RR := Lib.hid R
  have HH := Lib.hid h
  clear hn hj R h
  go_enter Tryz.func40, Tryz.ntmps40
  go_wp2_with fail
  refine (specTop C _ g n c s HH.out h0 hn1 hnc hcm).mono ?_
  rintro e w1 ⟨rfl, k1, hw1⟩
  have h2 : MM C w1 (.slice (some ⟨g, 0, none⟩) n c) s := by rw [hw1]; exact HH.out.drewN k1
  clear hw1
  obtain ⟨bc, oc, bi, oi, k3, d3, eA, hnx, hk3, hbc, hbi, u3, u5, u6, _, _⟩ := h2.insCells hfbx hpbx
  have hop : insAt (codeD C.x (fb : Int)).2.2.2.1 (pb : Int) = fIns C.x f := by unfold fIns; rw [hcd, hpb]
  rw [hop, hIe] at u5 u6
  obtain ⟨_, _, mv⟩ := h2.mv
  have m0 := mv.m0
  rw [eA] at m0
  obtain ⟨_, _, _, _, _, _, _, _, ho⟩ := h2.opg HJ.out
  have c1 := ho.fv.c1
  have c2 := ho.fv.c2
  rw [hfb] at c1
  rw [hpb] at c2
  have hgl := ho.fv.lt
  have hM3 := mv.lt
  have hgM := ho.fv.gM
  obtain ⟨_, _, hBw⟩ := h2.xs
  have l1 : fb < C.nx := by omega
  have l2 : (fb : Int) < (C.nx : Int) := by omega
  have l3 : pb < k3 := by omega
  have l4 : (pb : Int) < (k3 : Int) := by omega
  have hS := Lib.hid (show ∀ V', Below w1.heap.size w1 V' → V'.cell? ⟨C.M, 0, none⟩ = some (.slice (some ⟨bc, oc, none⟩) C.nx C.cx) ∧ V'.cell? ⟨g, (n - 1) * 11 + 1, none⟩ = some (.int .i64 fb) ∧ V'.cell? ⟨g, (n - 1) * 11 + 2, none⟩ = some (.int .i64 pb) ∧ V'.cell? ⟨bc, oc + fb * 5 + 3, none⟩ = some (.slice (some ⟨bi, oi, none⟩) k3 d3) ∧ V'.cell? ⟨bi, oi + pb * 2, none⟩ = some (.int .i64 10) ∧ V'.cell? ⟨bi, oi + pb * 2 + 1, none⟩ = some (.int .i64 N2) from fun V' hV => ⟨below_cell hV m0, below_cell hV c1, below_cell hV c2, below_cell hV u3, below_cell hV u5, below_cell hV u6⟩)
  have HPB := Lib.hid hpb
  have H2 := Lib.hid h2
  clear mv ho h2 hk3 hnx hcd hpb hfb hop eA hIe hK hN2 m0 c1 c2 u3 u5 u6
  go_upto_region 1 with fail
  obtain ⟨q0, q1, q2, q3, q4, q5⟩ := hS.out w1 (Below.refl _ _)
  go_region_held3 (fun V' => V'.cell? ⟨C.M, 0, none⟩ = some (.slice (some ⟨bc, oc, none⟩) C.nx C.cx) ∧ V'.cell? ⟨g, (n - 1) * 11 + 1, none⟩ = some (.int .i64 fb) ∧ V'.cell? ⟨g, (n - 1) * 11 + 2, none⟩ = some (.int .i64 pb) ∧ V'.cell? ⟨bc, oc + fb * 5 + 3, none⟩ = some (.slice (some ⟨bi, oi, none⟩) k3 d3) ∧ V'.cell? ⟨bi, oi + pb * 2, none⟩ = some (.int .i64 10) ∧ V'.cell? ⟨bi, oi + pb * 2 + 1, none⟩ = some (.int .i64 N2)) (exact hS.out _ (show Below w1.heap.size w1 _ by exact beloA)) (fail)
  obtain ⟨W, hW⟩ : ∃ W, W = (w1.alloc (.cells #[.int .i64 10, .int .i64 N2] 84)).drew := ⟨_, rfl⟩
  have hbW : Below w1.heap.size w1 W := by rw [hW]; exact belA
  have hzW : W.heap.size = w1.heap.size + 1 := by rw [hW]; simp
  have b0 : W.cell? ⟨w1.heap.size, 0, none⟩ = some (.int .i64 10) := by rw [hW]; simp [go_sem]
  have b1 : W.cell? ⟨w1.heap.size, 1, none⟩ = some (.int .i64 N2) := by rw [hW]; simp [go_sem]
  have H3 := Lib.hid (H2.out.apart hbW (Fx := [w1.heap.size]) (fun k hk => by rw [List.mem_singleton.1 hk]; omega))
  have H1 := Lib.hid H3.out.less
  rw [← hW]
  obtain ⟨X, hX⟩ : ∃ X, w1.heap.size = X := ⟨_, rfl⟩
  rw [hX] at H3 hzW b0 b1 ⊢
  have hMX : C.M < X := by omega
  have hgX : g < X := by omega
  clear hW hbW hX H2 hS q0 q1 q2 q3 q4 q5 hgl hM3
  obtain ⟨_, _, _, _, _, _, _, _, ho⟩ := H1.out.opg HJ.out
  have c2 : W.cell? ⟨g, (n - 1) * 11 + 2, none⟩ = some (.int .i64 pb) := by rw [← HPB.out]; exact ho.fv.c2
  have fz2 := ho.fv.fz ((n - 1) * 11 + 2)
  have hgW := ho.fv.lt
  clear ho
  have HF := Lib.hid (show stepF C.x C.ins C.most s = { s with fs := fGo f N2 (fPile f) :: rest } by rw [HE.out, HIE.out]; simp [stepI])
  go_wp2_with fail
  refine (specPlainF C W g n c s 10 N2 H1.out h0 hn1 hnc hcm (by decide) (by decide) (by decide) (by decide) (by decide) (by decide) (by decide) (by decide) (by decide)).mono ?_
  rintro e V ⟨rfl, hbV⟩
  have HV := Lib.hid (H1.out.keep hbV)
  have v0 := below_cell hbV b0
  have v1 := below_cell hbV b1
  have hzV := hbV.size
  have hXV : X < V.heap.size := by omega
  obtain ⟨_, _, _, _, _, _, _, _, ho⟩ := HV.out.opg HJ.out
  have y2 : V.cell? ⟨g, (n - 1) * 11 + 2, none⟩ = some (.int .i64 pb) := by rw [← HPB.out]; exact ho.fv.c2
  have yz2 := ho.fv.fz ((n - 1) * 11 + 2)
  have y7 := ho.fv.c7
  have yz7 := ho.fv.fz ((n - 1) * 11 + 7)
  have hgV := ho.fv.lt
  clear ho hbV b0 b1 c2 fz2 hgW
  have h4 := HV.out.pAt HJ.out i2
  rw [MS.put_top RR.out.fs HN.out] at h4
  have H9 := Lib.hid h4
  clear h4
  go_wp2_with fail
  go_end0
  exact ⟨rfl, _, HF.out ▸ H9.out⟩
set_option maxHeartbeats 4000000 in
theorem specStep14 (C : Cfg) (w : World) (vf : Value) (s : MS) (f : Frame) (rest : List Frame) (N : Nat) (h : MM C w vf s) (R : Rdy C.x C.ins C.most N s f rest) (hK : (fIns C.x f).1 = 14) :
    Calls Tryz.prog 40 #[.pointer (some ⟨C.M, 0, none⟩)] w (RetN C (stepF C.x C.ins C.most s) w) := by
  obtain ⟨g, n, c, rfl, hn, h0, hnc, hcm, hj⟩ := h.opens R.fs
  have hn1 : n ≤ 1000000 := by have := R.ok.many; omega
  have FW := Lib.hid R.fw
  have HIW := Lib.hid R.insW
  have hpl := R.pile
  have HE := Lib.hid (show stepF C.x C.ins C.most s = stepI C.x C.ins C.most s f rest (fIns C.x f) by unfold stepF; rw [R.fs])
  obtain ⟨N2, hN2⟩ : ∃ N2, (fIns C.x f).2 = N2 := ⟨_, rfl⟩
  have i2 : I64 N2 := hN2 ▸ ins64 R.insW.1
  obtain ⟨fb, hfb⟩ := Int.eq_ofNat_of_zero_le FW.out.fn.1
  obtain ⟨pb, hpb⟩ := Int.eq_ofNat_of_zero_le FW.out.at_.1
  have hfbx : fb < C.x.length := by have := FW.out.fn.2; omega
  have hcd : fCode C.x f = codeD C.x (fb : Int) := by unfold fCode; rw [hfb]
  have hpbx : pb < (codeD C.x (fb : Int)).2.2.2.1.length := by have := FW.out.at_.2; rw [hcd, hpb] at this; omega
  have l5 : pb ≤ 1000000 := by have := FW.out.il; have := FW.out.at_.2; omega
  have l6 : fb ≤ 1000000 := by have := FW.out.xl; omega
  have hIe : fIns C.x f = (14, N2) := by rw [← hK, ← hN2]
  have HIE := Lib.hid hIe
  have HN := Lib.hid hn
  have HJ := Lib.hid hj
  have RR := Lib.hid R
  have HH := Lib.hid h
  clear hn hj R h
  go_enter Tryz.func40, Tryz.ntmps40
  go_wp2_with fail
  refine (specTop C _ g n c s HH.out h0 hn1 hnc hcm).mono ?_
  rintro e w1 ⟨rfl, k1, hw1⟩
  have h2 : MM C w1 (.slice (some ⟨g, 0, none⟩) n c) s := by rw [hw1]; exact HH.out.drewN k1
  clear hw1
  obtain ⟨bc, oc, bi, oi, k3, d3, eA, hnx, hk3, hbc, hbi, u3, u5, u6, _, _⟩ := h2.insCells hfbx hpbx
  have hop : insAt (codeD C.x (fb : Int)).2.2.2.1 (pb : Int) = fIns C.x f := by unfold fIns; rw [hcd, hpb]
  rw [hop, hIe] at u5 u6
  obtain ⟨_, _, mv⟩ := h2.mv
  have m0 := mv.m0
  rw [eA] at m0
  obtain ⟨_, _, _, _, _, _, _, _, ho⟩ := h2.opg HJ.out
  have c1 := ho.fv.c1
  have c2 := ho.fv.c2
  rw [hfb] at c1
  rw [hpb] at c2
  have hgl := ho.fv.lt
  have hM3 := mv.lt
  have hgM := ho.fv.gM
  obtain ⟨_, _, hBw⟩ := h2.xs
  have l1 : fb < C.nx := by omega
  have l2 : (fb : Int) < (C.nx : Int) := by omega
  have l3 : pb < k3 := by omega
  have l4 : (pb : Int) < (k3 : Int) := by omega
  have hS := Lib.hid (show ∀ V', Below w1.heap.size w1 V' → V'.cell? ⟨C.M, 0, none⟩ = some (.slice (some ⟨bc, oc, none⟩) C.nx C.cx) ∧ V'.cell? ⟨g, (n - 1) * 11 + 1, none⟩ = some (.int .i64 fb) ∧ V'.cell? ⟨g, (n - 1) * 11 + 2, none⟩ = some (.int .i64 pb) ∧ V'.cell? ⟨bc, oc + fb * 5 + 3, none⟩ = some (.slice (some ⟨bi, oi, none⟩) k3 d3) ∧ V'.cell? ⟨bi, oi + pb * 2, none⟩ = some (.int .i64 14) ∧ V'.cell? ⟨bi, oi + pb * 2 + 1, none⟩ = some (.int .i64 N2) from fun V' hV => ⟨below_cell hV m0, below_cell hV c1, below_cell hV c2, below_cell hV u3, below_cell hV u5, below_cell hV u6⟩)
  have HPB := Lib.hid hpb
  have H2 := Lib.hid h2
  clear mv ho h2 hk3 hnx hcd hpb hfb hop eA hIe hK hN2 m0 c1 c2 u3 u5 u6
  go_upto_region 1 with fail
  obtain ⟨q0, q1, q2, q3, q4, q5⟩ := hS.out w1 (Below.refl _ _)
  go_region_held3 (fun V' => V'.cell? ⟨C.M, 0, none⟩ = some (.slice (some ⟨bc, oc, none⟩) C.nx C.cx) ∧ V'.cell? ⟨g, (n - 1) * 11 + 1, none⟩ = some (.int .i64 fb) ∧ V'.cell? ⟨g, (n - 1) * 11 + 2, none⟩ = some (.int .i64 pb) ∧ V'.cell? ⟨bc, oc + fb * 5 + 3, none⟩ = some (.slice (some ⟨bi, oi, none⟩) k3 d3) ∧ V'.cell? ⟨bi, oi + pb * 2, none⟩ = some (.int .i64 14) ∧ V'.cell? ⟨bi, oi + pb * 2 + 1, none⟩ = some (.int .i64 N2)) (exact hS.out _ (show Below w1.heap.size w1 _ by exact beloA)) (fail)
  obtain ⟨W, hW⟩ : ∃ W, W = (w1.alloc (.cells #[.int .i64 14, .int .i64 N2] 84)).drew := ⟨_, rfl⟩
  have hbW : Below w1.heap.size w1 W := by rw [hW]; exact belA
  have hzW : W.heap.size = w1.heap.size + 1 := by rw [hW]; simp
  have b0 : W.cell? ⟨w1.heap.size, 0, none⟩ = some (.int .i64 14) := by rw [hW]; simp [go_sem]
  have b1 : W.cell? ⟨w1.heap.size, 1, none⟩ = some (.int .i64 N2) := by rw [hW]; simp [go_sem]
  have H3 := Lib.hid (H2.out.apart hbW (Fx := [w1.heap.size]) (fun k hk => by rw [List.mem_singleton.1 hk]; omega))
  have H1 := Lib.hid H3.out.less
  rw [← hW]
  obtain ⟨X, hX⟩ : ∃ X, w1.heap.size = X := ⟨_, rfl⟩
  rw [hX] at H3 hzW b0 b1 ⊢
  have hMX : C.M < X := by omega
  have hgX : g < X := by omega
  clear hW hbW hX H2 hS q0 q1 q2 q3 q4 q5 hgl hM3
  obtain ⟨_, _, _, _, _, _, _, _, ho⟩ := H1.out.opg HJ.out
  have c2 : W.cell? ⟨g, (n - 1) * 11 + 2, none⟩ = some (.int .i64 pb) := by rw [← HPB.out]; exact ho.fv.c2
  have fz2 := ho.fv.fz ((n - 1) * 11 + 2)
  have hgW := ho.fv.lt
  clear ho
  have hpd := padW RR.out.hg RR.out.top.1 (top_ge RR.out.top) (by rw [HIE.out]; rfl)
  have HF := Lib.hid (show stepF C.x C.ins C.most s = { s with fs := raiseFr C.x f 3 0 :: rest } by rw [HE.out, HIE.out]; simp [stepI])
  go_wp2_with fail
  refine (specPlainF C W g n c s 14 N2 H1.out h0 hn1 hnc hcm (by decide) (by decide) (by decide) (by decide) (by decide) (by decide) (by decide) (by decide) (by decide)).mono ?_
  rintro e V ⟨rfl, hbV⟩
  have HV := Lib.hid (H1.out.keep hbV)
  have v0 := below_cell hbV b0
  have v1 := below_cell hbV b1
  have hzV := hbV.size
  have hXV : X < V.heap.size := by omega
  obtain ⟨_, _, _, _, _, _, _, _, ho⟩ := HV.out.opg HJ.out
  have y2 : V.cell? ⟨g, (n - 1) * 11 + 2, none⟩ = some (.int .i64 pb) := by rw [← HPB.out]; exact ho.fv.c2
  have yz2 := ho.fv.fz ((n - 1) * 11 + 2)
  have y7 := ho.fv.c7
  have yz7 := ho.fv.fz ((n - 1) * 11 + 7)
  have hgV := ho.fv.lt
  clear ho hbV b0 b1 c2 fz2 hgW
  go_wp2_with fail
  refine (specRaise C V g n c s f 3 0 (Or.inr rfl) (by unfold I64; omega) HV.out HJ.out h0 hn1 hnc hcm FW.out.fn hpd.1 (show ∀ r, r ∈ (fCode C.x f).2.2.2.2 → 0 ≤ r.2.1 from rowEnd RR.out.hg RR.out.top.1) (by have := FW.out.xl; omega) (show (fCode C.x f).2.2.2.2.length ≤ 1048576 by have := FW.out.rl; omega) hpd.2).mono ?_
  rintro e w4 ⟨rfl, h4⟩
  rw [MS.put_top RR.out.fs HN.out] at h4
  have H9 := Lib.hid h4
  clear h4
  go_wp2_with fail
  go_end0
  exact ⟨rfl, _, HF.out ▸ H9.out⟩
set_option maxHeartbeats 4000000 in
theorem specStep13 (C : Cfg) (w : World) (vf : Value) (s : MS) (f : Frame) (rest : List Frame) (N : Nat) (h : MM C w vf s) (R : Rdy C.x C.ins C.most N s f rest) (hK : (fIns C.x f).1 = 13) :
    Calls Tryz.prog 40 #[.pointer (some ⟨C.M, 0, none⟩)] w (RetN C (stepF C.x C.ins C.most s) w) := by
  obtain ⟨g, n, c, rfl, hn, h0, hnc, hcm, hj⟩ := h.opens R.fs
  have hn1 : n ≤ 1000000 := by have := R.ok.many; omega
  have FW := Lib.hid R.fw
  have HIW := Lib.hid R.insW
  have hpl := R.pile
  have HE := Lib.hid (show stepF C.x C.ins C.most s = stepI C.x C.ins C.most s f rest (fIns C.x f) by unfold stepF; rw [R.fs])
  obtain ⟨N2, hN2⟩ : ∃ N2, (fIns C.x f).2 = N2 := ⟨_, rfl⟩
  have i2 : I64 N2 := hN2 ▸ ins64 R.insW.1
  obtain ⟨fb, hfb⟩ := Int.eq_ofNat_of_zero_le FW.out.fn.1
  obtain ⟨pb, hpb⟩ := Int.eq_ofNat_of_zero_le FW.out.at_.1
  have hfbx : fb < C.x.length := by have := FW.out.fn.2; omega
  have hcd : fCode C.x f = codeD C.x (fb : Int) := by unfold fCode; rw [hfb]
  have hpbx : pb < (codeD C.x (fb : Int)).2.2.2.1.length := by have := FW.out.at_.2; rw [hcd, hpb] at this; omega
  have l5 : pb ≤ 1000000 := by have := FW.out.il; have := FW.out.at_.2; omega
  have l6 : fb ≤ 1000000 := by have := FW.out.xl; omega
  have hIe : fIns C.x f = (13, N2) := by rw [← hK, ← hN2]
  have HIE := Lib.hid hIe
  have HN := Lib.hid hn
  have HJ := Lib.hid hj
  have RR := Lib.hid R
  have HH := Lib.hid h
  clear hn hj R h
  go_enter Tryz.func40, Tryz.ntmps40
  go_wp2_with fail
  refine (specTop C _ g n c s HH.out h0 hn1 hnc hcm).mono ?_
  rintro e w1 ⟨rfl, k1, hw1⟩
  have h2 : MM C w1 (.slice (some ⟨g, 0, none⟩) n c) s := by rw [hw1]; exact HH.out.drewN k1
  clear hw1
  obtain ⟨bc, oc, bi, oi, k3, d3, eA, hnx, hk3, hbc, hbi, u3, u5, u6, _, _⟩ := h2.insCells hfbx hpbx
  have hop : insAt (codeD C.x (fb : Int)).2.2.2.1 (pb : Int) = fIns C.x f := by unfold fIns; rw [hcd, hpb]
  rw [hop, hIe] at u5 u6
  obtain ⟨_, _, mv⟩ := h2.mv
  have m0 := mv.m0
  rw [eA] at m0
  obtain ⟨_, _, _, _, _, _, _, _, ho⟩ := h2.opg HJ.out
  have c1 := ho.fv.c1
  have c2 := ho.fv.c2
  rw [hfb] at c1
  rw [hpb] at c2
  have hgl := ho.fv.lt
  have hM3 := mv.lt
  have hgM := ho.fv.gM
  obtain ⟨_, _, hBw⟩ := h2.xs
  have l1 : fb < C.nx := by omega
  have l2 : (fb : Int) < (C.nx : Int) := by omega
  have l3 : pb < k3 := by omega
  have l4 : (pb : Int) < (k3 : Int) := by omega
  have hS := Lib.hid (show ∀ V', Below w1.heap.size w1 V' → V'.cell? ⟨C.M, 0, none⟩ = some (.slice (some ⟨bc, oc, none⟩) C.nx C.cx) ∧ V'.cell? ⟨g, (n - 1) * 11 + 1, none⟩ = some (.int .i64 fb) ∧ V'.cell? ⟨g, (n - 1) * 11 + 2, none⟩ = some (.int .i64 pb) ∧ V'.cell? ⟨bc, oc + fb * 5 + 3, none⟩ = some (.slice (some ⟨bi, oi, none⟩) k3 d3) ∧ V'.cell? ⟨bi, oi + pb * 2, none⟩ = some (.int .i64 13) ∧ V'.cell? ⟨bi, oi + pb * 2 + 1, none⟩ = some (.int .i64 N2) from fun V' hV => ⟨below_cell hV m0, below_cell hV c1, below_cell hV c2, below_cell hV u3, below_cell hV u5, below_cell hV u6⟩)
  have HPB := Lib.hid hpb
  have H2 := Lib.hid h2
  clear mv ho h2 hk3 hnx hcd hpb hfb hop eA hIe hK hN2 m0 c1 c2 u3 u5 u6
  go_upto_region 1 with fail
  obtain ⟨q0, q1, q2, q3, q4, q5⟩ := hS.out w1 (Below.refl _ _)
  go_region_held3 (fun V' => V'.cell? ⟨C.M, 0, none⟩ = some (.slice (some ⟨bc, oc, none⟩) C.nx C.cx) ∧ V'.cell? ⟨g, (n - 1) * 11 + 1, none⟩ = some (.int .i64 fb) ∧ V'.cell? ⟨g, (n - 1) * 11 + 2, none⟩ = some (.int .i64 pb) ∧ V'.cell? ⟨bc, oc + fb * 5 + 3, none⟩ = some (.slice (some ⟨bi, oi, none⟩) k3 d3) ∧ V'.cell? ⟨bi, oi + pb * 2, none⟩ = some (.int .i64 13) ∧ V'.cell? ⟨bi, oi + pb * 2 + 1, none⟩ = some (.int .i64 N2)) (exact hS.out _ (show Below w1.heap.size w1 _ by exact beloA)) (fail)
  obtain ⟨W, hW⟩ : ∃ W, W = (w1.alloc (.cells #[.int .i64 13, .int .i64 N2] 84)).drew := ⟨_, rfl⟩
  have hbW : Below w1.heap.size w1 W := by rw [hW]; exact belA
  have hzW : W.heap.size = w1.heap.size + 1 := by rw [hW]; simp
  have b0 : W.cell? ⟨w1.heap.size, 0, none⟩ = some (.int .i64 13) := by rw [hW]; simp [go_sem]
  have b1 : W.cell? ⟨w1.heap.size, 1, none⟩ = some (.int .i64 N2) := by rw [hW]; simp [go_sem]
  have H3 := Lib.hid (H2.out.apart hbW (Fx := [w1.heap.size]) (fun k hk => by rw [List.mem_singleton.1 hk]; omega))
  have H1 := Lib.hid H3.out.less
  rw [← hW]
  obtain ⟨X, hX⟩ : ∃ X, w1.heap.size = X := ⟨_, rfl⟩
  rw [hX] at H3 hzW b0 b1 ⊢
  have hMX : C.M < X := by omega
  have hgX : g < X := by omega
  clear hW hbW hX H2 hS q0 q1 q2 q3 q4 q5 hgl hM3
  obtain ⟨_, _, _, _, _, _, _, _, ho⟩ := H1.out.opg HJ.out
  have c2 : W.cell? ⟨g, (n - 1) * 11 + 2, none⟩ = some (.int .i64 pb) := by rw [← HPB.out]; exact ho.fv.c2
  have fz2 := ho.fv.fz ((n - 1) * 11 + 2)
  have hgW := ho.fv.lt
  clear ho
  have hpd := padW RR.out.hg RR.out.top.1 (top_ge RR.out.top) (by rw [HIE.out]; rfl)
  have hp0 : 0 < (fPile f).length := by have := HIW.out.2.1; rw [HIE.out, tk1 (by simp)] at this; omega
  have hsl := small_lastN FW.out.ps
  have hl64 := I64_of hsl
  have HF := Lib.hid (show stepF C.x C.ins C.most s = { s with fs := raiseFr C.x f 2 (lastN (fPile f)) :: rest } by rw [HE.out, HIE.out]; simp [stepI])
  go_wp2_with fail
  refine (specPlainF C W g n c s 13 N2 H1.out h0 hn1 hnc hcm (by decide) (by decide) (by decide) (by decide) (by decide) (by decide) (by decide) (by decide) (by decide)).mono ?_
  rintro e V ⟨rfl, hbV⟩
  have HV := Lib.hid (H1.out.keep hbV)
  have v0 := below_cell hbV b0
  have v1 := below_cell hbV b1
  have hzV := hbV.size
  have hXV : X < V.heap.size := by omega
  obtain ⟨_, _, _, _, _, _, _, _, ho⟩ := HV.out.opg HJ.out
  have y2 : V.cell? ⟨g, (n - 1) * 11 + 2, none⟩ = some (.int .i64 pb) := by rw [← HPB.out]; exact ho.fv.c2
  have yz2 := ho.fv.fz ((n - 1) * 11 + 2)
  have y7 := ho.fv.c7
  have yz7 := ho.fv.fz ((n - 1) * 11 + 7)
  have hgV := ho.fv.lt
  clear ho hbV b0 b1 c2 fz2 hgW
  go_wp2_with fail
  refine (specPop C V g n c s f HV.out HJ.out h0 hn1 hnc hcm hp0 (by omega)).mono ?_
  rintro e w4 ⟨rfl, k4, v4, hw4, h4⟩
  clear hw4
  have hj4 := MS.put_get (f := (fGo f f.2.2.1 (fPile f).dropLast)) HJ.out
  have H4 := Lib.hid h4
  clear h4
  go_wp2_with fail
  refine (specRaise C w4 g n c _ (fGo f f.2.2.1 (fPile f).dropLast) 2 (lastN (fPile f)) (Or.inl rfl) hl64 H4.out hj4 h0 hn1 hnc hcm FW.out.fn hpd.1 (show ∀ r, r ∈ (fCode C.x f).2.2.2.2 → 0 ≤ r.2.1 from rowEnd RR.out.hg RR.out.top.1) (by have := FW.out.xl; omega) (show (fCode C.x f).2.2.2.2.length ≤ 1048576 by have := FW.out.rl; omega) hpd.2).mono ?_
  rintro e w5 ⟨rfl, h5⟩
  rw [MS.put_put, MS.put_top RR.out.fs HN.out] at h5
  have H9 := Lib.hid (show MM C w5 (.slice (some ⟨g, 0, none⟩) n c) { s with fs := raiseFr C.x f 2 (lastN (fPile f)) :: rest } from h5)
  clear h5
  go_wp2_with fail
  go_end0
  exact ⟨rfl, _, HF.out ▸ H9.out⟩
set_option maxHeartbeats 4000000 in
theorem specStep18 (C : Cfg) (w : World) (vf : Value) (s : MS) (f : Frame) (rest : List Frame) (N : Nat) (h : MM C w vf s) (R : Rdy C.x C.ins C.most N s f rest) (hK : (fIns C.x f).1 = 18) :
    Calls Tryz.prog 40 #[.pointer (some ⟨C.M, 0, none⟩)] w (RetN C (stepF C.x C.ins C.most s) w) := by
  obtain ⟨g, n, c, rfl, hn, h0, hnc, hcm, hj⟩ := h.opens R.fs
  have hn1 : n ≤ 1000000 := by have := R.ok.many; omega
  have FW := Lib.hid R.fw
  have HIW := Lib.hid R.insW
  have hpl := R.pile
  have HE := Lib.hid (show stepF C.x C.ins C.most s = stepI C.x C.ins C.most s f rest (fIns C.x f) by unfold stepF; rw [R.fs])
  obtain ⟨N2, hN2⟩ : ∃ N2, (fIns C.x f).2 = N2 := ⟨_, rfl⟩
  have i2 : I64 N2 := hN2 ▸ ins64 R.insW.1
  obtain ⟨fb, hfb⟩ := Int.eq_ofNat_of_zero_le FW.out.fn.1
  obtain ⟨pb, hpb⟩ := Int.eq_ofNat_of_zero_le FW.out.at_.1
  have hfbx : fb < C.x.length := by have := FW.out.fn.2; omega
  have hcd : fCode C.x f = codeD C.x (fb : Int) := by unfold fCode; rw [hfb]
  have hpbx : pb < (codeD C.x (fb : Int)).2.2.2.1.length := by have := FW.out.at_.2; rw [hcd, hpb] at this; omega
  have l5 : pb ≤ 1000000 := by have := FW.out.il; have := FW.out.at_.2; omega
  have l6 : fb ≤ 1000000 := by have := FW.out.xl; omega
  have hIe : fIns C.x f = (18, N2) := by rw [← hK, ← hN2]
  have HIE := Lib.hid hIe
  have HN := Lib.hid hn
  have HJ := Lib.hid hj
  have RR := Lib.hid R
  have HH := Lib.hid h
  clear hn hj R h
  go_enter Tryz.func40, Tryz.ntmps40
  go_wp2_with fail
  refine (specTop C _ g n c s HH.out h0 hn1 hnc hcm).mono ?_
  rintro e w1 ⟨rfl, k1, hw1⟩
  have h2 : MM C w1 (.slice (some ⟨g, 0, none⟩) n c) s := by rw [hw1]; exact HH.out.drewN k1
  clear hw1
  obtain ⟨bc, oc, bi, oi, k3, d3, eA, hnx, hk3, hbc, hbi, u3, u5, u6, _, _⟩ := h2.insCells hfbx hpbx
  have hop : insAt (codeD C.x (fb : Int)).2.2.2.1 (pb : Int) = fIns C.x f := by unfold fIns; rw [hcd, hpb]
  rw [hop, hIe] at u5 u6
  obtain ⟨_, _, mv⟩ := h2.mv
  have m0 := mv.m0
  rw [eA] at m0
  obtain ⟨_, _, _, _, _, _, _, _, ho⟩ := h2.opg HJ.out
  have c1 := ho.fv.c1
  have c2 := ho.fv.c2
  rw [hfb] at c1
  rw [hpb] at c2
  have hgl := ho.fv.lt
  have hM3 := mv.lt
  have hgM := ho.fv.gM
  obtain ⟨_, _, hBw⟩ := h2.xs
  have l1 : fb < C.nx := by omega
  have l2 : (fb : Int) < (C.nx : Int) := by omega
  have l3 : pb < k3 := by omega
  have l4 : (pb : Int) < (k3 : Int) := by omega
  have hS := Lib.hid (show ∀ V', Below w1.heap.size w1 V' → V'.cell? ⟨C.M, 0, none⟩ = some (.slice (some ⟨bc, oc, none⟩) C.nx C.cx) ∧ V'.cell? ⟨g, (n - 1) * 11 + 1, none⟩ = some (.int .i64 fb) ∧ V'.cell? ⟨g, (n - 1) * 11 + 2, none⟩ = some (.int .i64 pb) ∧ V'.cell? ⟨bc, oc + fb * 5 + 3, none⟩ = some (.slice (some ⟨bi, oi, none⟩) k3 d3) ∧ V'.cell? ⟨bi, oi + pb * 2, none⟩ = some (.int .i64 18) ∧ V'.cell? ⟨bi, oi + pb * 2 + 1, none⟩ = some (.int .i64 N2) from fun V' hV => ⟨below_cell hV m0, below_cell hV c1, below_cell hV c2, below_cell hV u3, below_cell hV u5, below_cell hV u6⟩)
  have HPB := Lib.hid hpb
  have H2 := Lib.hid h2
  clear mv ho h2 hk3 hnx hcd hpb hfb hop eA hIe hK hN2 m0 c1 c2 u3 u5 u6
  go_upto_region 1 with fail
  obtain ⟨q0, q1, q2, q3, q4, q5⟩ := hS.out w1 (Below.refl _ _)
  go_region_held3 (fun V' => V'.cell? ⟨C.M, 0, none⟩ = some (.slice (some ⟨bc, oc, none⟩) C.nx C.cx) ∧ V'.cell? ⟨g, (n - 1) * 11 + 1, none⟩ = some (.int .i64 fb) ∧ V'.cell? ⟨g, (n - 1) * 11 + 2, none⟩ = some (.int .i64 pb) ∧ V'.cell? ⟨bc, oc + fb * 5 + 3, none⟩ = some (.slice (some ⟨bi, oi, none⟩) k3 d3) ∧ V'.cell? ⟨bi, oi + pb * 2, none⟩ = some (.int .i64 18) ∧ V'.cell? ⟨bi, oi + pb * 2 + 1, none⟩ = some (.int .i64 N2)) (exact hS.out _ (show Below w1.heap.size w1 _ by exact beloA)) (fail)
  obtain ⟨W, hW⟩ : ∃ W, W = (w1.alloc (.cells #[.int .i64 18, .int .i64 N2] 84)).drew := ⟨_, rfl⟩
  have hbW : Below w1.heap.size w1 W := by rw [hW]; exact belA
  have hzW : W.heap.size = w1.heap.size + 1 := by rw [hW]; simp
  have b0 : W.cell? ⟨w1.heap.size, 0, none⟩ = some (.int .i64 18) := by rw [hW]; simp [go_sem]
  have b1 : W.cell? ⟨w1.heap.size, 1, none⟩ = some (.int .i64 N2) := by rw [hW]; simp [go_sem]
  have H3 := Lib.hid (H2.out.apart hbW (Fx := [w1.heap.size]) (fun k hk => by rw [List.mem_singleton.1 hk]; omega))
  have H1 := Lib.hid H3.out.less
  rw [← hW]
  obtain ⟨X, hX⟩ : ∃ X, w1.heap.size = X := ⟨_, rfl⟩
  rw [hX] at H3 hzW b0 b1 ⊢
  have hMX : C.M < X := by omega
  have hgX : g < X := by omega
  clear hW hbW hX H2 hS q0 q1 q2 q3 q4 q5 hgl hM3
  obtain ⟨_, _, _, _, _, _, _, _, ho⟩ := H1.out.opg HJ.out
  have c2 : W.cell? ⟨g, (n - 1) * 11 + 2, none⟩ = some (.int .i64 pb) := by rw [← HPB.out]; exact ho.fv.c2
  have fz2 := ho.fv.fz ((n - 1) * 11 + 2)
  have hgW := ho.fv.lt
  clear ho
  have HF := Lib.hid (show stepF C.x C.ins C.most s = endM C.x s f rest by rw [HE.out, HIE.out]; simp [stepI])
  go_wp2_with fail
  refine (specPlainF C W g n c s 18 N2 H1.out h0 hn1 hnc hcm (by decide) (by decide) (by decide) (by decide) (by decide) (by decide) (by decide) (by decide) (by decide)).mono ?_
  rintro e V ⟨rfl, hbV⟩
  have HV := Lib.hid (H1.out.keep hbV)
  have v0 := below_cell hbV b0
  have v1 := below_cell hbV b1
  have hzV := hbV.size
  have hXV : X < V.heap.size := by omega
  obtain ⟨_, _, _, _, _, _, _, _, ho⟩ := HV.out.opg HJ.out
  have y2 : V.cell? ⟨g, (n - 1) * 11 + 2, none⟩ = some (.int .i64 pb) := by rw [← HPB.out]; exact ho.fv.c2
  have yz2 := ho.fv.fz ((n - 1) * 11 + 2)
  have y7 := ho.fv.c7
  have yz7 := ho.fv.fz ((n - 1) * 11 + 7)
  have hgV := ho.fv.lt
  clear ho hbV b0 b1 c2 fz2 hgW
  go_wp2_with fail
  refine (specEnd C V _ s f rest N HV.out RR.out).mono ?_
  rintro e w4 ⟨rfl, vf4, h4⟩
  have H9 := Lib.hid h4
  clear h4
  go_wp2_with fail
  go_end0
  exact ⟨rfl, _, HF.out ▸ H9.out⟩
set_option maxHeartbeats 4000000 in
theorem specStep16 (C : Cfg) (w : World) (vf : Value) (s : MS) (f : Frame) (rest : List Frame) (N : Nat) (h : MM C w vf s) (R : Rdy C.x C.ins C.most N s f rest) (hK : (fIns C.x f).1 = 16) :
    Calls Tryz.prog 40 #[.pointer (some ⟨C.M, 0, none⟩)] w (RetN C (stepF C.x C.ins C.most s) w) := by
  obtain ⟨g, n, c, rfl, hn, h0, hnc, hcm, hj⟩ := h.opens R.fs
  have hn1 : n ≤ 1000000 := by have := R.ok.many; omega
  have FW := Lib.hid R.fw
  have HIW := Lib.hid R.insW
  have hpl := R.pile
  have HE := Lib.hid (show stepF C.x C.ins C.most s = stepI C.x C.ins C.most s f rest (fIns C.x f) by unfold stepF; rw [R.fs])
  obtain ⟨N2, hN2⟩ : ∃ N2, (fIns C.x f).2 = N2 := ⟨_, rfl⟩
  have i2 : I64 N2 := hN2 ▸ ins64 R.insW.1
  obtain ⟨fb, hfb⟩ := Int.eq_ofNat_of_zero_le FW.out.fn.1
  obtain ⟨pb, hpb⟩ := Int.eq_ofNat_of_zero_le FW.out.at_.1
  have hfbx : fb < C.x.length := by have := FW.out.fn.2; omega
  have hcd : fCode C.x f = codeD C.x (fb : Int) := by unfold fCode; rw [hfb]
  have hpbx : pb < (codeD C.x (fb : Int)).2.2.2.1.length := by have := FW.out.at_.2; rw [hcd, hpb] at this; omega
  have l5 : pb ≤ 1000000 := by have := FW.out.il; have := FW.out.at_.2; omega
  have l6 : fb ≤ 1000000 := by have := FW.out.xl; omega
  have hIe : fIns C.x f = (16, N2) := by rw [← hK, ← hN2]
  have HIE := Lib.hid hIe
  have HN := Lib.hid hn
  have HJ := Lib.hid hj
  have RR := Lib.hid R
  have HH := Lib.hid h
  clear hn hj R h
  go_enter Tryz.func40, Tryz.ntmps40
  go_wp2_with fail
  refine (specTop C _ g n c s HH.out h0 hn1 hnc hcm).mono ?_
  rintro e w1 ⟨rfl, k1, hw1⟩
  have h2 : MM C w1 (.slice (some ⟨g, 0, none⟩) n c) s := by rw [hw1]; exact HH.out.drewN k1
  clear hw1
  obtain ⟨bc, oc, bi, oi, k3, d3, eA, hnx, hk3, hbc, hbi, u3, u5, u6, _, _⟩ := h2.insCells hfbx hpbx
  have hop : insAt (codeD C.x (fb : Int)).2.2.2.1 (pb : Int) = fIns C.x f := by unfold fIns; rw [hcd, hpb]
  rw [hop, hIe] at u5 u6
  obtain ⟨_, _, mv⟩ := h2.mv
  have m0 := mv.m0
  rw [eA] at m0
  obtain ⟨_, _, _, _, _, _, _, _, ho⟩ := h2.opg HJ.out
  have c1 := ho.fv.c1
  have c2 := ho.fv.c2
  rw [hfb] at c1
  rw [hpb] at c2
  have hgl := ho.fv.lt
  have hM3 := mv.lt
  have hgM := ho.fv.gM
  obtain ⟨_, _, hBw⟩ := h2.xs
  have l1 : fb < C.nx := by omega
  have l2 : (fb : Int) < (C.nx : Int) := by omega
  have l3 : pb < k3 := by omega
  have l4 : (pb : Int) < (k3 : Int) := by omega
  have hS := Lib.hid (show ∀ V', Below w1.heap.size w1 V' → V'.cell? ⟨C.M, 0, none⟩ = some (.slice (some ⟨bc, oc, none⟩) C.nx C.cx) ∧ V'.cell? ⟨g, (n - 1) * 11 + 1, none⟩ = some (.int .i64 fb) ∧ V'.cell? ⟨g, (n - 1) * 11 + 2, none⟩ = some (.int .i64 pb) ∧ V'.cell? ⟨bc, oc + fb * 5 + 3, none⟩ = some (.slice (some ⟨bi, oi, none⟩) k3 d3) ∧ V'.cell? ⟨bi, oi + pb * 2, none⟩ = some (.int .i64 16) ∧ V'.cell? ⟨bi, oi + pb * 2 + 1, none⟩ = some (.int .i64 N2) from fun V' hV => ⟨below_cell hV m0, below_cell hV c1, below_cell hV c2, below_cell hV u3, below_cell hV u5, below_cell hV u6⟩)
  have HPB := Lib.hid hpb
  have H2 := Lib.hid h2
  clear mv ho h2 hk3 hnx hcd hpb hfb hop eA hIe hK hN2 m0 c1 c2 u3 u5 u6
  go_upto_region 1 with fail
  obtain ⟨q0, q1, q2, q3, q4, q5⟩ := hS.out w1 (Below.refl _ _)
  go_region_held3 (fun V' => V'.cell? ⟨C.M, 0, none⟩ = some (.slice (some ⟨bc, oc, none⟩) C.nx C.cx) ∧ V'.cell? ⟨g, (n - 1) * 11 + 1, none⟩ = some (.int .i64 fb) ∧ V'.cell? ⟨g, (n - 1) * 11 + 2, none⟩ = some (.int .i64 pb) ∧ V'.cell? ⟨bc, oc + fb * 5 + 3, none⟩ = some (.slice (some ⟨bi, oi, none⟩) k3 d3) ∧ V'.cell? ⟨bi, oi + pb * 2, none⟩ = some (.int .i64 16) ∧ V'.cell? ⟨bi, oi + pb * 2 + 1, none⟩ = some (.int .i64 N2)) (exact hS.out _ (show Below w1.heap.size w1 _ by exact beloA)) (fail)
  obtain ⟨W, hW⟩ : ∃ W, W = (w1.alloc (.cells #[.int .i64 16, .int .i64 N2] 84)).drew := ⟨_, rfl⟩
  have hbW : Below w1.heap.size w1 W := by rw [hW]; exact belA
  have hzW : W.heap.size = w1.heap.size + 1 := by rw [hW]; simp
  have b0 : W.cell? ⟨w1.heap.size, 0, none⟩ = some (.int .i64 16) := by rw [hW]; simp [go_sem]
  have b1 : W.cell? ⟨w1.heap.size, 1, none⟩ = some (.int .i64 N2) := by rw [hW]; simp [go_sem]
  have H3 := Lib.hid (H2.out.apart hbW (Fx := [w1.heap.size]) (fun k hk => by rw [List.mem_singleton.1 hk]; omega))
  have H1 := Lib.hid H3.out.less
  rw [← hW]
  obtain ⟨X, hX⟩ : ∃ X, w1.heap.size = X := ⟨_, rfl⟩
  rw [hX] at H3 hzW b0 b1 ⊢
  have hMX : C.M < X := by omega
  have hgX : g < X := by omega
  clear hW hbW hX H2 hS q0 q1 q2 q3 q4 q5 hgl hM3
  obtain ⟨_, _, _, _, _, _, _, _, ho⟩ := H1.out.opg HJ.out
  have c2 : W.cell? ⟨g, (n - 1) * 11 + 2, none⟩ = some (.int .i64 pb) := by rw [← HPB.out]; exact ho.fv.c2
  have fz2 := ho.fv.fz ((n - 1) * 11 + 2)
  have hgW := ho.fv.lt
  clear ho
  have hpd := padW RR.out.hg RR.out.top.1 (top_ge RR.out.top) (by rw [HIE.out]; rfl)
  have HF := Lib.hid (show stepF C.x C.ins C.most s = { s with fs := fMode (fGo f (padFr C.x f) (fPile f)) 1 :: rest } by rw [HE.out, HIE.out]; simp [stepI])
  go_wp2_with fail
  refine (specPlainF C W g n c s 16 N2 H1.out h0 hn1 hnc hcm (by decide) (by decide) (by decide) (by decide) (by decide) (by decide) (by decide) (by decide) (by decide)).mono ?_
  rintro e V ⟨rfl, hbV⟩
  have HV := Lib.hid (H1.out.keep hbV)
  have v0 := below_cell hbV b0
  have v1 := below_cell hbV b1
  have hzV := hbV.size
  have hXV : X < V.heap.size := by omega
  obtain ⟨_, _, _, _, _, _, _, _, ho⟩ := HV.out.opg HJ.out
  have y2 : V.cell? ⟨g, (n - 1) * 11 + 2, none⟩ = some (.int .i64 pb) := by rw [← HPB.out]; exact ho.fv.c2
  have yz2 := ho.fv.fz ((n - 1) * 11 + 2)
  have y7 := ho.fv.c7
  have yz7 := ho.fv.fz ((n - 1) * 11 + 7)
  have hgV := ho.fv.lt
  clear ho hbV b0 b1 c2 fz2 hgW
  have h4 := HV.out.pMode HJ.out (a := 1) (by unfold I64; omega)
  have hj4 := MS.put_get (f := fMode f 1) HJ.out
  have H4 := Lib.hid h4
  clear h4
  go_wp2_with fail
  refine (show Calls _ _ _ _ (RetIx (padFr C.x f) _) from specPad C _ g n c _ (fMode f 1) H4.out hj4 h0 hn1 hnc hcm FW.out.fn hpd.1 (show ∀ r, r ∈ (fCode C.x f).2.2.2.2 → 0 ≤ r.2.1 from rowEnd RR.out.hg RR.out.top.1) (by have := FW.out.xl; omega) (show (fCode C.x f).2.2.2.2.length ≤ 1048576 by have := FW.out.rl; omega)).mono ?_
  rintro e w5 ⟨rfl, hb5⟩
  have h5 := H4.out.keep hb5
  obtain ⟨_, _, _, _, _, _, _, _, ho⟩ := h5.opg hj4
  have c2' := ho.fv.c2
  have fz2' := ho.fv.fz ((n - 1) * 11 + 2)
  have hg5 := ho.fv.lt
  have h6 := h5.pAt hj4 hpd.2
  rw [MS.put_put, MS.put_top RR.out.fs HN.out] at h6
  have h7 : MM C _ _ { s with fs := fMode (fGo f (padFr C.x f) (fPile f)) 1 :: rest } := h6
  have H9 := Lib.hid h7
  clear ho h6 h7 h5 hb5 y2 yz2 y7 yz7 hgV
  go_wp2_with fail
  go_end0
  exact ⟨rfl, _, HF.out ▸ H9.out⟩
set_option maxHeartbeats 4000000 in
theorem specStep4 (C : Cfg) (w : World) (vf : Value) (s : MS) (f : Frame) (rest : List Frame) (N : Nat) (h : MM C w vf s) (R : Rdy C.x C.ins C.most N s f rest) (hK : (fIns C.x f).1 = 4) :
    Calls Tryz.prog 40 #[.pointer (some ⟨C.M, 0, none⟩)] w (RetN C (stepF C.x C.ins C.most s) w) := by
  obtain ⟨g, n, c, rfl, hn, h0, hnc, hcm, hj⟩ := h.opens R.fs
  have hn1 : n ≤ 1000000 := by have := R.ok.many; omega
  have FW := Lib.hid R.fw
  have HIW := Lib.hid R.insW
  have hpl := R.pile
  have HE := Lib.hid (show stepF C.x C.ins C.most s = stepI C.x C.ins C.most s f rest (fIns C.x f) by unfold stepF; rw [R.fs])
  obtain ⟨N2, hN2⟩ : ∃ N2, (fIns C.x f).2 = N2 := ⟨_, rfl⟩
  have i2 : I64 N2 := hN2 ▸ ins64 R.insW.1
  obtain ⟨fb, hfb⟩ := Int.eq_ofNat_of_zero_le FW.out.fn.1
  obtain ⟨pb, hpb⟩ := Int.eq_ofNat_of_zero_le FW.out.at_.1
  have hfbx : fb < C.x.length := by have := FW.out.fn.2; omega
  have hcd : fCode C.x f = codeD C.x (fb : Int) := by unfold fCode; rw [hfb]
  have hpbx : pb < (codeD C.x (fb : Int)).2.2.2.1.length := by have := FW.out.at_.2; rw [hcd, hpb] at this; omega
  have l5 : pb ≤ 1000000 := by have := FW.out.il; have := FW.out.at_.2; omega
  have l6 : fb ≤ 1000000 := by have := FW.out.xl; omega
  have hIe : fIns C.x f = (4, N2) := by rw [← hK, ← hN2]
  have HIE := Lib.hid hIe
  have HN := Lib.hid hn
  have HJ := Lib.hid hj
  have RR := Lib.hid R
  have HH := Lib.hid h
  clear hn hj R h
  go_enter Tryz.func40, Tryz.ntmps40
  go_wp2_with fail
  refine (specTop C _ g n c s HH.out h0 hn1 hnc hcm).mono ?_
  rintro e w1 ⟨rfl, k1, hw1⟩
  have h2 : MM C w1 (.slice (some ⟨g, 0, none⟩) n c) s := by rw [hw1]; exact HH.out.drewN k1
  clear hw1
  obtain ⟨bc, oc, bi, oi, k3, d3, eA, hnx, hk3, hbc, hbi, u3, u5, u6, _, _⟩ := h2.insCells hfbx hpbx
  have hop : insAt (codeD C.x (fb : Int)).2.2.2.1 (pb : Int) = fIns C.x f := by unfold fIns; rw [hcd, hpb]
  rw [hop, hIe] at u5 u6
  obtain ⟨_, _, mv⟩ := h2.mv
  have m0 := mv.m0
  rw [eA] at m0
  obtain ⟨_, _, _, _, _, _, _, _, ho⟩ := h2.opg HJ.out
  have c1 := ho.fv.c1
  have c2 := ho.fv.c2
  rw [hfb] at c1
  rw [hpb] at c2
  have hgl := ho.fv.lt
  have hM3 := mv.lt
  have hgM := ho.fv.gM
  obtain ⟨_, _, hBw⟩ := h2.xs
  have l1 : fb < C.nx := by omega
  have l2 : (fb : Int) < (C.nx : Int) := by omega
  have l3 : pb < k3 := by omega
  have l4 : (pb : Int) < (k3 : Int) := by omega
  have hS := Lib.hid (show ∀ V', Below w1.heap.size w1 V' → V'.cell? ⟨C.M, 0, none⟩ = some (.slice (some ⟨bc, oc, none⟩) C.nx C.cx) ∧ V'.cell? ⟨g, (n - 1) * 11 + 1, none⟩ = some (.int .i64 fb) ∧ V'.cell? ⟨g, (n - 1) * 11 + 2, none⟩ = some (.int .i64 pb) ∧ V'.cell? ⟨bc, oc + fb * 5 + 3, none⟩ = some (.slice (some ⟨bi, oi, none⟩) k3 d3) ∧ V'.cell? ⟨bi, oi + pb * 2, none⟩ = some (.int .i64 4) ∧ V'.cell? ⟨bi, oi + pb * 2 + 1, none⟩ = some (.int .i64 N2) from fun V' hV => ⟨below_cell hV m0, below_cell hV c1, below_cell hV c2, below_cell hV u3, below_cell hV u5, below_cell hV u6⟩)
  have HPB := Lib.hid hpb
  have H2 := Lib.hid h2
  clear mv ho h2 hk3 hnx hcd hpb hfb hop eA hIe hK hN2 m0 c1 c2 u3 u5 u6
  go_upto_region 1 with fail
  obtain ⟨q0, q1, q2, q3, q4, q5⟩ := hS.out w1 (Below.refl _ _)
  go_region_held3 (fun V' => V'.cell? ⟨C.M, 0, none⟩ = some (.slice (some ⟨bc, oc, none⟩) C.nx C.cx) ∧ V'.cell? ⟨g, (n - 1) * 11 + 1, none⟩ = some (.int .i64 fb) ∧ V'.cell? ⟨g, (n - 1) * 11 + 2, none⟩ = some (.int .i64 pb) ∧ V'.cell? ⟨bc, oc + fb * 5 + 3, none⟩ = some (.slice (some ⟨bi, oi, none⟩) k3 d3) ∧ V'.cell? ⟨bi, oi + pb * 2, none⟩ = some (.int .i64 4) ∧ V'.cell? ⟨bi, oi + pb * 2 + 1, none⟩ = some (.int .i64 N2)) (exact hS.out _ (show Below w1.heap.size w1 _ by exact beloA)) (fail)
  obtain ⟨W, hW⟩ : ∃ W, W = (w1.alloc (.cells #[.int .i64 4, .int .i64 N2] 84)).drew := ⟨_, rfl⟩
  have hbW : Below w1.heap.size w1 W := by rw [hW]; exact belA
  have hzW : W.heap.size = w1.heap.size + 1 := by rw [hW]; simp
  have b0 : W.cell? ⟨w1.heap.size, 0, none⟩ = some (.int .i64 4) := by rw [hW]; simp [go_sem]
  have b1 : W.cell? ⟨w1.heap.size, 1, none⟩ = some (.int .i64 N2) := by rw [hW]; simp [go_sem]
  have H3 := Lib.hid (H2.out.apart hbW (Fx := [w1.heap.size]) (fun k hk => by rw [List.mem_singleton.1 hk]; omega))
  have H1 := Lib.hid H3.out.less
  rw [← hW]
  obtain ⟨X, hX⟩ : ∃ X, w1.heap.size = X := ⟨_, rfl⟩
  rw [hX] at H3 hzW b0 b1 ⊢
  have hMX : C.M < X := by omega
  have hgX : g < X := by omega
  clear hW hbW hX H2 hS q0 q1 q2 q3 q4 q5 hgl hM3
  obtain ⟨_, _, _, _, _, _, _, _, ho⟩ := H1.out.opg HJ.out
  have c2 : W.cell? ⟨g, (n - 1) * 11 + 2, none⟩ = some (.int .i64 pb) := by rw [← HPB.out]; exact ho.fv.c2
  have fz2 := ho.fv.fz ((n - 1) * 11 + 2)
  have hgW := ho.fv.lt
  clear ho
  have hpd := padW RR.out.hg RR.out.top.1 (top_ge RR.out.top) (by rw [HIE.out]; rfl)
  have hp2 : 2 ≤ (fPile f).length := by have := HIW.out.2.1; rw [HIE.out, tk2 rfl] at this; omega
  have s1 := I32_small.2 (small_lastN FW.out.ps)
  have s2 := I32_small.2 (small_lastN (small_init FW.out.ps))
  obtain ⟨y, hy⟩ : ∃ y, lastN (fPile f) = y := ⟨_, rfl⟩
  obtain ⟨x1, hx1⟩ : ∃ x1, lastN (fPile f).dropLast = x1 := ⟨_, rfl⟩
  rw [hy] at s1
  rw [hx1] at s2
  have HR4 := Lib.hid (show I64 (recN N2 x1 y) from by have := recN_small N2 x1 y; unfold I32 at this; unfold I64; omega)
  have HY := Lib.hid hy
  have HX1 := Lib.hid hx1
  clear hy hx1
  go_wp2_with fail
  refine (specPlainF C W g n c s 4 N2 H1.out h0 hn1 hnc hcm (by decide) (by decide) (by decide) (by decide) (by decide) (by decide) (by decide) (by decide) (by decide)).mono ?_
  rintro e V ⟨rfl, hbV⟩
  have HV := Lib.hid (H1.out.keep hbV)
  have v0 := below_cell hbV b0
  have v1 := below_cell hbV b1
  have hzV := hbV.size
  have hXV : X < V.heap.size := by omega
  obtain ⟨_, _, _, _, _, _, _, _, ho⟩ := HV.out.opg HJ.out
  have y2 : V.cell? ⟨g, (n - 1) * 11 + 2, none⟩ = some (.int .i64 pb) := by rw [← HPB.out]; exact ho.fv.c2
  have yz2 := ho.fv.fz ((n - 1) * 11 + 2)
  have y7 := ho.fv.c7
  have yz7 := ho.fv.fz ((n - 1) * 11 + 7)
  have hgV := ho.fv.lt
  clear ho hbV b0 b1 c2 fz2 hgW
  by_cases hb : recB N2 y = true
  · have HF := Lib.hid (show stepF C.x C.ins C.most s = { s with fs := fGo f ((pb : Int) + 1) ((fPile f).dropLast.dropLast ++ [recN N2 x1 y]) :: rest } by rw [HE.out, HIE.out]; simp [stepI, HPB.out, HY.out, HX1.out, hb])
    go_wp2_with fail
    refine (specReckonA C V g n c s f rest N2 x1 y RR.out.fs HN.out HV.out HJ.out h0 hn1 hnc hcm pb HPB.out l5 hp2 (by omega) HY.out HX1.out s1 s2 hb HR4.out).mono ?_
    rintro e w4 ⟨rfl, h4⟩
    have H9 := Lib.hid h4
    clear h4
    go_wp2_with fail
    go_end0
    exact ⟨rfl, _, HF.out ▸ H9.out⟩
  · have HF := Lib.hid (show stepF C.x C.ins C.most s = { s with fs := raiseFr C.x f 2 (-1) :: rest } by rw [HE.out, HIE.out]; simp [stepI, HPB.out, HY.out, HX1.out, hb])
    go_wp2_with fail
    refine (specReckonB C V g n c s f rest N2 x1 y RR.out.fs HN.out HV.out HJ.out h0 hn1 hnc hcm pb HPB.out l5 hp2 (by omega) HY.out HX1.out s1 s2 (by simpa using hb) FW.out.fn hpd.1 (show ∀ r, r ∈ (fCode C.x f).2.2.2.2 → 0 ≤ r.2.1 from rowEnd RR.out.hg RR.out.top.1) (by have := FW.out.xl; omega) (show (fCode C.x f).2.2.2.2.length ≤ 1048576 by have := FW.out.rl; omega) hpd.2).mono ?_
    rintro e w4 ⟨rfl, h4⟩
    have H9 := Lib.hid h4
    clear h4
    go_wp2_with fail
    go_end0
    exact ⟨rfl, _, HF.out ▸ H9.out⟩
set_option maxHeartbeats 4000000 in
theorem specStep11 (C : Cfg) (w : World) (vf : Value) (s : MS) (f : Frame) (rest : List Frame) (N : Nat) (h : MM C w vf s) (R : Rdy C.x C.ins C.most N s f rest) (hK : (fIns C.x f).1 = 11) :
    Calls Tryz.prog 40 #[.pointer (some ⟨C.M, 0, none⟩)] w (RetN C (stepF C.x C.ins C.most s) w) := by
  obtain ⟨g, n, c, rfl, hn, h0, hnc, hcm, hj⟩ := h.opens R.fs
  have hn1 : n ≤ 1000000 := by have := R.ok.many; omega
  have FW := Lib.hid R.fw
  have HIW := Lib.hid R.insW
  have hpl := R.pile
  have HE := Lib.hid (show stepF C.x C.ins C.most s = stepI C.x C.ins C.most s f rest (fIns C.x f) by unfold stepF; rw [R.fs])
  obtain ⟨N2, hN2⟩ : ∃ N2, (fIns C.x f).2 = N2 := ⟨_, rfl⟩
  have i2 : I64 N2 := hN2 ▸ ins64 R.insW.1
  obtain ⟨fb, hfb⟩ := Int.eq_ofNat_of_zero_le FW.out.fn.1
  obtain ⟨pb, hpb⟩ := Int.eq_ofNat_of_zero_le FW.out.at_.1
  have hfbx : fb < C.x.length := by have := FW.out.fn.2; omega
  have hcd : fCode C.x f = codeD C.x (fb : Int) := by unfold fCode; rw [hfb]
  have hpbx : pb < (codeD C.x (fb : Int)).2.2.2.1.length := by have := FW.out.at_.2; rw [hcd, hpb] at this; omega
  have l5 : pb ≤ 1000000 := by have := FW.out.il; have := FW.out.at_.2; omega
  have l6 : fb ≤ 1000000 := by have := FW.out.xl; omega
  have hIe : fIns C.x f = (11, N2) := by rw [← hK, ← hN2]
  have HIE := Lib.hid hIe
  have HN := Lib.hid hn
  have HJ := Lib.hid hj
  have RR := Lib.hid R
  have HH := Lib.hid h
  clear hn hj R h
  go_enter Tryz.func40, Tryz.ntmps40
  go_wp2_with fail
  refine (specTop C _ g n c s HH.out h0 hn1 hnc hcm).mono ?_
  rintro e w1 ⟨rfl, k1, hw1⟩
  have h2 : MM C w1 (.slice (some ⟨g, 0, none⟩) n c) s := by rw [hw1]; exact HH.out.drewN k1
  clear hw1
  obtain ⟨bc, oc, bi, oi, k3, d3, eA, hnx, hk3, hbc, hbi, u3, u5, u6, _, _⟩ := h2.insCells hfbx hpbx
  have hop : insAt (codeD C.x (fb : Int)).2.2.2.1 (pb : Int) = fIns C.x f := by unfold fIns; rw [hcd, hpb]
  rw [hop, hIe] at u5 u6
  obtain ⟨_, _, mv⟩ := h2.mv
  have m0 := mv.m0
  rw [eA] at m0
  obtain ⟨_, _, _, _, _, _, _, _, ho⟩ := h2.opg HJ.out
  have c1 := ho.fv.c1
  have c2 := ho.fv.c2
  rw [hfb] at c1
  rw [hpb] at c2
  have hgl := ho.fv.lt
  have hM3 := mv.lt
  have hgM := ho.fv.gM
  obtain ⟨_, _, hBw⟩ := h2.xs
  have l1 : fb < C.nx := by omega
  have l2 : (fb : Int) < (C.nx : Int) := by omega
  have l3 : pb < k3 := by omega
  have l4 : (pb : Int) < (k3 : Int) := by omega
  have hS := Lib.hid (show ∀ V', Below w1.heap.size w1 V' → V'.cell? ⟨C.M, 0, none⟩ = some (.slice (some ⟨bc, oc, none⟩) C.nx C.cx) ∧ V'.cell? ⟨g, (n - 1) * 11 + 1, none⟩ = some (.int .i64 fb) ∧ V'.cell? ⟨g, (n - 1) * 11 + 2, none⟩ = some (.int .i64 pb) ∧ V'.cell? ⟨bc, oc + fb * 5 + 3, none⟩ = some (.slice (some ⟨bi, oi, none⟩) k3 d3) ∧ V'.cell? ⟨bi, oi + pb * 2, none⟩ = some (.int .i64 11) ∧ V'.cell? ⟨bi, oi + pb * 2 + 1, none⟩ = some (.int .i64 N2) from fun V' hV => ⟨below_cell hV m0, below_cell hV c1, below_cell hV c2, below_cell hV u3, below_cell hV u5, below_cell hV u6⟩)
  have HPB := Lib.hid hpb
  have H2 := Lib.hid h2
  clear mv ho h2 hk3 hnx hcd hpb hfb hop eA hIe hK hN2 m0 c1 c2 u3 u5 u6
  go_upto_region 1 with fail
  obtain ⟨q0, q1, q2, q3, q4, q5⟩ := hS.out w1 (Below.refl _ _)
  go_region_held3 (fun V' => V'.cell? ⟨C.M, 0, none⟩ = some (.slice (some ⟨bc, oc, none⟩) C.nx C.cx) ∧ V'.cell? ⟨g, (n - 1) * 11 + 1, none⟩ = some (.int .i64 fb) ∧ V'.cell? ⟨g, (n - 1) * 11 + 2, none⟩ = some (.int .i64 pb) ∧ V'.cell? ⟨bc, oc + fb * 5 + 3, none⟩ = some (.slice (some ⟨bi, oi, none⟩) k3 d3) ∧ V'.cell? ⟨bi, oi + pb * 2, none⟩ = some (.int .i64 11) ∧ V'.cell? ⟨bi, oi + pb * 2 + 1, none⟩ = some (.int .i64 N2)) (exact hS.out _ (show Below w1.heap.size w1 _ by exact beloA)) (fail)
  obtain ⟨W, hW⟩ : ∃ W, W = (w1.alloc (.cells #[.int .i64 11, .int .i64 N2] 84)).drew := ⟨_, rfl⟩
  have hbW : Below w1.heap.size w1 W := by rw [hW]; exact belA
  have hzW : W.heap.size = w1.heap.size + 1 := by rw [hW]; simp
  have b0 : W.cell? ⟨w1.heap.size, 0, none⟩ = some (.int .i64 11) := by rw [hW]; simp [go_sem]
  have b1 : W.cell? ⟨w1.heap.size, 1, none⟩ = some (.int .i64 N2) := by rw [hW]; simp [go_sem]
  have H3 := Lib.hid (H2.out.apart hbW (Fx := [w1.heap.size]) (fun k hk => by rw [List.mem_singleton.1 hk]; omega))
  have H1 := Lib.hid H3.out.less
  rw [← hW]
  obtain ⟨X, hX⟩ : ∃ X, w1.heap.size = X := ⟨_, rfl⟩
  rw [hX] at H3 hzW b0 b1 ⊢
  have hMX : C.M < X := by omega
  have hgX : g < X := by omega
  clear hW hbW hX H2 hS q0 q1 q2 q3 q4 q5 hgl hM3
  obtain ⟨_, _, _, _, _, _, _, _, ho⟩ := H1.out.opg HJ.out
  have c2 : W.cell? ⟨g, (n - 1) * 11 + 2, none⟩ = some (.int .i64 pb) := by rw [← HPB.out]; exact ho.fv.c2
  have fz2 := ho.fv.fz ((n - 1) * 11 + 2)
  have hgW := ho.fv.lt
  clear ho
  have hp0 : 0 < (fPile f).length := by have := HIW.out.2.1; rw [HIE.out, tk1 (by simp)] at this; omega
  have hsl := small_lastN FW.out.ps
  have hl64 := I64_of hsl
  go_wp2_with fail
  refine (specPlainF C W g n c s 11 N2 H1.out h0 hn1 hnc hcm (by decide) (by decide) (by decide) (by decide) (by decide) (by decide) (by decide) (by decide) (by decide)).mono ?_
  rintro e V ⟨rfl, hbV⟩
  have HV := Lib.hid (H1.out.keep hbV)
  have v0 := below_cell hbV b0
  have v1 := below_cell hbV b1
  have hzV := hbV.size
  have hXV : X < V.heap.size := by omega
  obtain ⟨_, _, _, _, _, _, _, _, ho⟩ := HV.out.opg HJ.out
  have y2 : V.cell? ⟨g, (n - 1) * 11 + 2, none⟩ = some (.int .i64 pb) := by rw [← HPB.out]; exact ho.fv.c2
  have yz2 := ho.fv.fz ((n - 1) * 11 + 2)
  have y7 := ho.fv.c7
  have yz7 := ho.fv.fz ((n - 1) * 11 + 7)
  have hgV := ho.fv.lt
  clear ho hbV b0 b1 c2 fz2 hgW
  have h4 := HV.out.pAt HJ.out (a := (pb : Int) + 1) (by unfold I64; omega)
  have hj4 := Lib.hid (MS.put_get (f := fGo f ((pb : Int) + 1) (fPile f)) HJ.out)
  have H4 := Lib.hid h4
  clear h4
  go_upto_region 13 with fail
  obtain ⟨V2, hV2⟩ : ∃ V2, V2 = V.setCell ⟨g, (n - 1) * 11 + 2, none⟩ (.int .i64 ((pb : Int) + 1)) := ⟨_, rfl⟩
  have hf2 : Fr [g] V V2 := by rw [hV2]; exact frcA
  have u1 := cell_fr1 hf2 (by simp; omega) v1
  rw [← hV2] at H4 ⊢
  have hz2 := hf2.size
  clear hV2 y2 yz2 y7 yz7 v0 v1 hgV
  by_cases hz : lastN (fPile f) = 0
  · have HF := Lib.hid (show stepF C.x C.ins C.most s = { s with fs := fGo f N2 (fPile f).dropLast :: rest } by rw [HE.out, HIE.out]; simp [stepI, HPB.out, hz])
    go_wp2_with fail
    refine (specPop C V2 g n c _ (fGo f ((pb : Int) + 1) (fPile f)) H4.out hj4.out h0 hn1 hnc hcm hp0 (show (fPile f).length ≤ 1000000 by omega)).mono ?_
    rintro e w5 ⟨rfl, k4, v4, hw4, h5⟩
    have hfr : Fr [g] V2 w5 := by rw [hw4]; exact frcA
    have u1' := cell_fr1 hfr (by simp; omega) u1
    have hX5 : X < w5.heap.size := by have := hfr.size; omega
    have hj5 := MS.put_get (f := fGo (fGo f ((pb : Int) + 1) (fPile f)) ((pb : Int) + 1) (fPile f).dropLast) hj4.out
    obtain ⟨_, _, _, _, _, _, _, _, ho⟩ := h5.opg hj5
    have c2 := ho.fv.c2
    have fz2 := ho.fv.fz ((n - 1) * 11 + 2)
    have hg5 := ho.fv.lt
    have h6 := h5.pAt hj5 i2
    rw [MS.put_put, MS.put_put, MS.put_top RR.out.fs HN.out] at h6
    have h7 : MM C _ _ { s with fs := fGo f N2 (fPile f).dropLast :: rest } := h6
    have H9 := Lib.hid h7
    clear ho h6 h7 h5 hw4 hfr u1 hj5
    rw [show lastN (fPile (fGo f ((pb : Int) + 1) (fPile f))) = 0 from hz]
    go_wp2_with fail
    go_end0
    exact ⟨rfl, _, HF.out ▸ H9.out⟩
  · have HF := Lib.hid (show stepF C.x C.ins C.most s = { s with fs := fGo f ((pb : Int) + 1) (fPile f).dropLast :: rest } by rw [HE.out, HIE.out]; simp [stepI, HPB.out, hz])
    go_wp2_with fail
    refine (specPop C V2 g n c _ (fGo f ((pb : Int) + 1) (fPile f)) H4.out hj4.out h0 hn1 hnc hcm hp0 (show (fPile f).length ≤ 1000000 by omega)).mono ?_
    rintro e w5 ⟨rfl, k4, v4, hw4, h5⟩
    clear hw4
    rw [MS.put_put, MS.put_top RR.out.fs HN.out] at h5
    have h7 : MM C w5 (.slice (some ⟨g, 0, none⟩) n c) { s with fs := fGo f ((pb : Int) + 1) (fPile f).dropLast :: rest } := h5
    have H9 := Lib.hid h7
    have hz' : ¬ lastN (fPile (fGo f ((pb : Int) + 1) (fPile f))) = 0 := hz
    clear h7 h5
    go_wp2_with fail
    go_end0
    exact ⟨rfl, _, HF.out ▸ H9.out⟩
set_option maxHeartbeats 4000000 in
theorem specStep7 (C : Cfg) (w : World) (vf : Value) (s : MS) (f : Frame) (rest : List Frame) (N : Nat) (h : MM C w vf s) (R : Rdy C.x C.ins C.most N s f rest) (hK : (fIns C.x f).1 = 7) :
    Calls Tryz.prog 40 #[.pointer (some ⟨C.M, 0, none⟩)] w (RetN C (stepF C.x C.ins C.most s) w) := by
  obtain ⟨g, n, c, rfl, hn, h0, hnc, hcm, hj⟩ := h.opens R.fs
  have hn1 : n ≤ 1000000 := by have := R.ok.many; omega
  have FW := Lib.hid R.fw
  have HIW := Lib.hid R.insW
  have hpl := R.pile
  have HE := Lib.hid (show stepF C.x C.ins C.most s = stepI C.x C.ins C.most s f rest (fIns C.x f) by unfold stepF; rw [R.fs])
  obtain ⟨N2, hN2⟩ : ∃ N2, (fIns C.x f).2 = N2 := ⟨_, rfl⟩
  have i2 : I64 N2 := hN2 ▸ ins64 R.insW.1
  obtain ⟨fb, hfb⟩ := Int.eq_ofNat_of_zero_le FW.out.fn.1
  obtain ⟨pb, hpb⟩ := Int.eq_ofNat_of_zero_le FW.out.at_.1
  have hfbx : fb < C.x.length := by have := FW.out.fn.2; omega
  have hcd : fCode C.x f = codeD C.x (fb : Int) := by unfold fCode; rw [hfb]
  have hpbx : pb < (codeD C.x (fb : Int)).2.2.2.1.length := by have := FW.out.at_.2; rw [hcd, hpb] at this; omega
  have l5 : pb ≤ 1000000 := by have := FW.out.il; have := FW.out.at_.2; omega
  have l6 : fb ≤ 1000000 := by have := FW.out.xl; omega
  have hIe : fIns C.x f = (7, N2) := by rw [← hK, ← hN2]
  have HIE := Lib.hid hIe
  have HN := Lib.hid hn
  have HJ := Lib.hid hj
  have RR := Lib.hid R
  have HH := Lib.hid h
  clear hn hj R h
  go_enter Tryz.func40, Tryz.ntmps40
  go_wp2_with fail
  refine (specTop C _ g n c s HH.out h0 hn1 hnc hcm).mono ?_
  rintro e w1 ⟨rfl, k1, hw1⟩
  have h2 : MM C w1 (.slice (some ⟨g, 0, none⟩) n c) s := by rw [hw1]; exact HH.out.drewN k1
  clear hw1
  obtain ⟨bc, oc, bi, oi, k3, d3, eA, hnx, hk3, hbc, hbi, u3, u5, u6, _, _⟩ := h2.insCells hfbx hpbx
  have hop : insAt (codeD C.x (fb : Int)).2.2.2.1 (pb : Int) = fIns C.x f := by unfold fIns; rw [hcd, hpb]
  rw [hop, hIe] at u5 u6
  obtain ⟨_, _, mv⟩ := h2.mv
  have m0 := mv.m0
  rw [eA] at m0
  obtain ⟨_, _, _, _, _, _, _, _, ho⟩ := h2.opg HJ.out
  have c1 := ho.fv.c1
  have c2 := ho.fv.c2
  rw [hfb] at c1
  rw [hpb] at c2
  have hgl := ho.fv.lt
  have hM3 := mv.lt
  have hgM := ho.fv.gM
  obtain ⟨_, _, hBw⟩ := h2.xs
  have l1 : fb < C.nx := by omega
  have l2 : (fb : Int) < (C.nx : Int) := by omega
  have l3 : pb < k3 := by omega
  have l4 : (pb : Int) < (k3 : Int) := by omega
  have hS := Lib.hid (show ∀ V', Below w1.heap.size w1 V' → V'.cell? ⟨C.M, 0, none⟩ = some (.slice (some ⟨bc, oc, none⟩) C.nx C.cx) ∧ V'.cell? ⟨g, (n - 1) * 11 + 1, none⟩ = some (.int .i64 fb) ∧ V'.cell? ⟨g, (n - 1) * 11 + 2, none⟩ = some (.int .i64 pb) ∧ V'.cell? ⟨bc, oc + fb * 5 + 3, none⟩ = some (.slice (some ⟨bi, oi, none⟩) k3 d3) ∧ V'.cell? ⟨bi, oi + pb * 2, none⟩ = some (.int .i64 7) ∧ V'.cell? ⟨bi, oi + pb * 2 + 1, none⟩ = some (.int .i64 N2) from fun V' hV => ⟨below_cell hV m0, below_cell hV c1, below_cell hV c2, below_cell hV u3, below_cell hV u5, below_cell hV u6⟩)
  have HPB := Lib.hid hpb
  have H2 := Lib.hid h2
  clear mv ho h2 hk3 hnx hcd hpb hfb hop eA hIe hK hN2 m0 c1 c2 u3 u5 u6
  go_upto_region 1 with fail
  obtain ⟨q0, q1, q2, q3, q4, q5⟩ := hS.out w1 (Below.refl _ _)
  go_region_held3 (fun V' => V'.cell? ⟨C.M, 0, none⟩ = some (.slice (some ⟨bc, oc, none⟩) C.nx C.cx) ∧ V'.cell? ⟨g, (n - 1) * 11 + 1, none⟩ = some (.int .i64 fb) ∧ V'.cell? ⟨g, (n - 1) * 11 + 2, none⟩ = some (.int .i64 pb) ∧ V'.cell? ⟨bc, oc + fb * 5 + 3, none⟩ = some (.slice (some ⟨bi, oi, none⟩) k3 d3) ∧ V'.cell? ⟨bi, oi + pb * 2, none⟩ = some (.int .i64 7) ∧ V'.cell? ⟨bi, oi + pb * 2 + 1, none⟩ = some (.int .i64 N2)) (exact hS.out _ (show Below w1.heap.size w1 _ by exact beloA)) (fail)
  obtain ⟨W, hW⟩ : ∃ W, W = (w1.alloc (.cells #[.int .i64 7, .int .i64 N2] 84)).drew := ⟨_, rfl⟩
  have hbW : Below w1.heap.size w1 W := by rw [hW]; exact belA
  have hzW : W.heap.size = w1.heap.size + 1 := by rw [hW]; simp
  have b0 : W.cell? ⟨w1.heap.size, 0, none⟩ = some (.int .i64 7) := by rw [hW]; simp [go_sem]
  have b1 : W.cell? ⟨w1.heap.size, 1, none⟩ = some (.int .i64 N2) := by rw [hW]; simp [go_sem]
  have H3 := Lib.hid (H2.out.apart hbW (Fx := [w1.heap.size]) (fun k hk => by rw [List.mem_singleton.1 hk]; omega))
  have H1 := Lib.hid H3.out.less
  rw [← hW]
  obtain ⟨X, hX⟩ : ∃ X, w1.heap.size = X := ⟨_, rfl⟩
  rw [hX] at H3 hzW b0 b1 ⊢
  have hMX : C.M < X := by omega
  have hgX : g < X := by omega
  clear hW hbW hX H2 hS q0 q1 q2 q3 q4 q5 hgl hM3
  obtain ⟨_, _, _, _, _, _, _, _, ho⟩ := H1.out.opg HJ.out
  have c2 : W.cell? ⟨g, (n - 1) * 11 + 2, none⟩ = some (.int .i64 pb) := by rw [← HPB.out]; exact ho.fv.c2
  have fz2 := ho.fv.fz ((n - 1) * 11 + 2)
  have hgW := ho.fv.lt
  clear ho
  obtain ⟨hcdO, _, _, hplO, _⟩ := top_pl RR.out.hg RR.out.top
  have h7i := i7_in RR.out.hg hcdO hplO (by rw [HIE.out])
  rw [HIE.out] at h7i
  simp only at h7i
  obtain ⟨k, hk⟩ := Int.eq_ofNat_of_zero_le h7i.1.1
  subst hk
  have hkx : k < C.x.length := by have := h7i.1.2; omega
  obtain ⟨kp, hkp⟩ := Int.eq_ofNat_of_zero_le (parF_bd0 RR.out.hg (k : Int))
  have hcz : codeSz (codeD C.x (k : Int)) = true := by rw [codeD_at hkx]; exact sizedB_mem (goodI_iff.1 RR.out.hg).1 _ (List.getElem_mem hkx)
  have hkpl : kp ≤ (fPile f).length := by have := HIW.out.2.1; rw [HIE.out, tk7 rfl] at this; simp only at this; omega
  have hkv : kp ≤ (codeD C.x (k : Int)).2.1.toNat := by have := h7i.2; omega
  have hmd : 0 ≤ s.made ∧ s.made ≤ 1000000 := by have := RR.out.ok.made; have := RR.out.hN; omega
  have HKP := Lib.hid (show (codeD C.x (k : Int)).1 = (kp : Int) from hkp)
  have HF := Lib.hid (show stepF C.x C.ins C.most s = callM C.x C.most s f rest (k : Int) kp false by rw [HE.out, HIE.out]; simp [stepI, hkp])
  clear hkp hplO hcdO h7i
  go_wp2_with fail
  refine (specPlainF C W g n c s 7 k H1.out h0 hn1 hnc hcm (by decide) (by decide) (by decide) (by decide) (by decide) (by decide) (by decide) (by decide) (by decide)).mono ?_
  rintro e V ⟨rfl, hbV⟩
  have HV := Lib.hid (H1.out.keep hbV)
  have v0 := below_cell hbV b0
  have v1 := below_cell hbV b1
  have hzV := hbV.size
  have hXV : X < V.heap.size := by omega
  obtain ⟨_, _, _, _, _, _, _, _, ho⟩ := HV.out.opg HJ.out
  have y2 : V.cell? ⟨g, (n - 1) * 11 + 2, none⟩ = some (.int .i64 pb) := by rw [← HPB.out]; exact ho.fv.c2
  have yz2 := ho.fv.fz ((n - 1) * 11 + 2)
  have y7 := ho.fv.c7
  have yz7 := ho.fv.fz ((n - 1) * 11 + 7)
  have hgV := ho.fv.lt
  clear ho hbV b0 b1 c2 fz2 hgW
  go_wp2_with fail
  refine (specCall C V _ s f rest k kp false HV.out RR.out.fs (by have := HN.out; omega) (by omega) hkpl hkx hcz HKP.out hkv hmd).mono ?_
  rintro e w5 ⟨rfl, vf5, h5, _⟩
  have H9 := Lib.hid h5
  clear h5
  go_wp2_with fail
  go_end0
  exact ⟨rfl, _, HF.out ▸ H9.out⟩
end Go.Proofs.YtgdeclmciflmpaaGreat

/- One step of the reference's machine: walks. Printed by steps8gen.py. -/
set_option linter.unusedVariables false
set_option linter.unusedSimpArgs false
set_option maxRecDepth 100000
namespace Go.Proofs.YtgdeclmciflmpaaGreat
open Go.RowKit
attribute [local irreducible] wpList
set_option maxHeartbeats 4000000 in
theorem specStep17 (C : Cfg) (w : World) (vf : Value) (s : MS) (f : Frame) (rest : List Frame) (N : Nat) (h : MM C w vf s) (R : Rdy C.x C.ins C.most N s f rest) (hK : (fIns C.x f).1 = 17) :
    Calls Tryz.prog 40 #[.pointer (some ⟨C.M, 0, none⟩)] w (RetN C (stepF C.x C.ins C.most s) w) := by
  obtain ⟨g, n, c, rfl, hn, h0, hnc, hcm, hj⟩ := h.opens R.fs
  have hn1 : n ≤ 1000000 := by have := R.ok.many; omega
  have FW := Lib.hid R.fw
  have HIW := Lib.hid R.insW
  have hpl := R.pile
  have HE := Lib.hid (show stepF C.x C.ins C.most s = stepI C.x C.ins C.most s f rest (fIns C.x f) by unfold stepF; rw [R.fs])
  obtain ⟨N2, hN2⟩ : ∃ N2, (fIns C.x f).2 = N2 := ⟨_, rfl⟩
  have i2 : I64 N2 := hN2 ▸ ins64 R.insW.1
  obtain ⟨fb, hfb⟩ := Int.eq_ofNat_of_zero_le FW.out.fn.1
  obtain ⟨pb, hpb⟩ := Int.eq_ofNat_of_zero_le FW.out.at_.1
  have hfbx : fb < C.x.length := by have := FW.out.fn.2; omega
  have hcd : fCode C.x f = codeD C.x (fb : Int) := by unfold fCode; rw [hfb]
  have hpbx : pb < (codeD C.x (fb : Int)).2.2.2.1.length := by have := FW.out.at_.2; rw [hcd, hpb] at this; omega
  have l5 : pb ≤ 1000000 := by have := FW.out.il; have := FW.out.at_.2; omega
  have l6 : fb ≤ 1000000 := by have := FW.out.xl; omega
  have hIe : fIns C.x f = (17, N2) := by rw [← hK, ← hN2]
  have HIE := Lib.hid hIe
  have HN := Lib.hid hn
  have HJ := Lib.hid hj
  have RR := Lib.hid R
  have HH := Lib.hid h
  clear hn hj R h
  go_enter Tryz.func40, Tryz.ntmps40
  go_wp2_with fail
  refine (specTop C _ g n c s HH.out h0 hn1 hnc hcm).mono ?_
  rintro e w1 ⟨rfl, k1, hw1⟩
  have h2 : MM C w1 (.slice (some ⟨g, 0, none⟩) n c) s := by rw [hw1]; exact HH.out.drewN k1
  clear hw1
  obtain ⟨bc, oc, bi, oi, k3, d3, eA, hnx, hk3, hbc, hbi, u3, u5, u6, _, _⟩ := h2.insCells hfbx hpbx
  have hop : insAt (codeD C.x (fb : Int)).2.2.2.1 (pb : Int) = fIns C.x f := by unfold fIns; rw [hcd, hpb]
  rw [hop, hIe] at u5 u6
  obtain ⟨_, _, mv⟩ := h2.mv
  have m0 := mv.m0
  rw [eA] at m0
  obtain ⟨_, _, _, _, _, _, _, _, ho⟩ := h2.opg HJ.out
  have c1 := ho.fv.c1
  have c2 := ho.fv.c2
  rw [hfb] at c1
  rw [hpb] at c2
  have hgl := ho.fv.lt
  have hM3 := mv.lt
  have hgM := ho.fv.gM
  obtain ⟨_, _, hBw⟩ := h2.xs
  have l1 : fb < C.nx := by omega
  have l2 : (fb : Int) < (C.nx : Int) := by omega
  have l3 : pb < k3 := by omega
  have l4 : (pb : Int) < (k3 : Int) := by omega
  have hS := Lib.hid (show ∀ V', Below w1.heap.size w1 V' → V'.cell? ⟨C.M, 0, none⟩ = some (.slice (some ⟨bc, oc, none⟩) C.nx C.cx) ∧ V'.cell? ⟨g, (n - 1) * 11 + 1, none⟩ = some (.int .i64 fb) ∧ V'.cell? ⟨g, (n - 1) * 11 + 2, none⟩ = some (.int .i64 pb) ∧ V'.cell? ⟨bc, oc + fb * 5 + 3, none⟩ = some (.slice (some ⟨bi, oi, none⟩) k3 d3) ∧ V'.cell? ⟨bi, oi + pb * 2, none⟩ = some (.int .i64 17) ∧ V'.cell? ⟨bi, oi + pb * 2 + 1, none⟩ = some (.int .i64 N2) from fun V' hV => ⟨below_cell hV m0, below_cell hV c1, below_cell hV c2, below_cell hV u3, below_cell hV u5, below_cell hV u6⟩)
  have HPB := Lib.hid hpb
  have hfb2 := Lib.hid hfb
  have H2 := Lib.hid h2
  clear mv ho h2 hk3 hnx hcd hpb hfb hop eA hIe hK hN2 m0 c1 c2 u3 u5 u6
  go_upto_region 1 with fail
  obtain ⟨q0, q1, q2, q3, q4, q5⟩ := hS.out w1 (Below.refl _ _)
  go_region_held3 (fun V' => V'.cell? ⟨C.M, 0, none⟩ = some (.slice (some ⟨bc, oc, none⟩) C.nx C.cx) ∧ V'.cell? ⟨g, (n - 1) * 11 + 1, none⟩ = some (.int .i64 fb) ∧ V'.cell? ⟨g, (n - 1) * 11 + 2, none⟩ = some (.int .i64 pb) ∧ V'.cell? ⟨bc, oc + fb * 5 + 3, none⟩ = some (.slice (some ⟨bi, oi, none⟩) k3 d3) ∧ V'.cell? ⟨bi, oi + pb * 2, none⟩ = some (.int .i64 17) ∧ V'.cell? ⟨bi, oi + pb * 2 + 1, none⟩ = some (.int .i64 N2)) (exact hS.out _ (show Below w1.heap.size w1 _ by exact beloA)) (fail)
  obtain ⟨W, hW⟩ : ∃ W, W = (w1.alloc (.cells #[.int .i64 17, .int .i64 N2] 84)).drew := ⟨_, rfl⟩
  have hbW : Below w1.heap.size w1 W := by rw [hW]; exact belA
  have hzW : W.heap.size = w1.heap.size + 1 := by rw [hW]; simp
  have b0 : W.cell? ⟨w1.heap.size, 0, none⟩ = some (.int .i64 17) := by rw [hW]; simp [go_sem]
  have b1 : W.cell? ⟨w1.heap.size, 1, none⟩ = some (.int .i64 N2) := by rw [hW]; simp [go_sem]
  have H3 := Lib.hid (H2.out.apart hbW (Fx := [w1.heap.size]) (fun k hk => by rw [List.mem_singleton.1 hk]; omega))
  have H1 := Lib.hid H3.out.less
  rw [← hW]
  obtain ⟨X, hX⟩ : ∃ X, w1.heap.size = X := ⟨_, rfl⟩
  rw [hX] at H3 hzW b0 b1 ⊢
  have hMX : C.M < X := by omega
  have hgX : g < X := by omega
  clear hW hbW hX H2 hS q0 q1 q2 q3 q4 q5 hgl hM3
  obtain ⟨_, _, _, _, _, _, _, _, ho⟩ := H1.out.opg HJ.out
  have c2 : W.cell? ⟨g, (n - 1) * 11 + 2, none⟩ = some (.int .i64 pb) := by rw [← HPB.out]; exact ho.fv.c2
  have fz2 := ho.fv.fz ((n - 1) * 11 + 2)
  have hgW := ho.fv.lt
  clear ho
  obtain ⟨k, hk2, hkl, hks⟩ := RR.out.site (by rw [HIE.out]; simp)
  obtain rfl : N2 = (k : Int) := by rw [HIE.out] at hk2; exact hk2
  have hk6 : k ≤ 1000000 := by have := FW.out.sl; omega
  have i1 := I64_of FW.out.id
  have hno : s.notes.length ≤ 4000000 := by have := RR.out.ok.notes; have := RR.out.hN; omega
  have HFI := Lib.hid (show fIns C.x f = (17, (k : Int)) from HIE.out)
  go_wp2_with fail
  refine (specPlainF C W g n c s 17 k H1.out h0 hn1 hnc hcm (by decide) (by decide) (by decide) (by decide) (by decide) (by decide) (by decide) (by decide) (by decide)).mono ?_
  rintro e V ⟨rfl, hbV⟩
  have HV := Lib.hid (H1.out.keep hbV)
  have v0 := below_cell hbV b0
  have v1 := below_cell hbV b1
  have hzV := hbV.size
  have hXV : X < V.heap.size := by omega
  obtain ⟨_, _, _, _, _, _, _, _, ho⟩ := HV.out.opg HJ.out
  have y2 : V.cell? ⟨g, (n - 1) * 11 + 2, none⟩ = some (.int .i64 pb) := by rw [← HPB.out]; exact ho.fv.c2
  have yz2 := ho.fv.fz ((n - 1) * 11 + 2)
  have y7 := ho.fv.c7
  have yz7 := ho.fv.fz ((n - 1) * 11 + 7)
  have hgV := ho.fv.lt
  clear ho hbV b0 b1 c2 fz2 hgW
  by_cases hfl : f.2.2.2.2.2.1.getD k false = true
  · have hfl2 : f.2.2.2.2.2.1.getD ((17 : Int), (k : Int)).2.toNat false = true := hfl
    by_cases hle : C.most ≤ (n : Int)
    · have HF := Lib.hid (show stepF C.x C.ins C.most s = { s with code := 4 } by rw [HE.out, HFI.out, stepI_17 rfl, if_pos hfl2, if_pos (by have := HN.out; omega)])
      go_wp2_with fail
      refine (specOffB C V g n c s f rest k RR.out.fs HN.out HV.out HJ.out h0 hn1 hnc hcm pb HPB.out l5 hkl hfl hle).mono ?_
      rintro e w4 ⟨rfl, vf4, h4⟩
      have H9 := Lib.hid h4
      clear h4
      go_wp2_with fail
      go_end0
      exact ⟨rfl, _, HF.out ▸ H9.out⟩
    · obtain ⟨hcdO, _, _, hplO, _⟩ := top_pl RR.out.hg RR.out.top
      have hs0 := hcdO.sites _ (List.getElem_mem hks)
      obtain ⟨st, hst⟩ := Int.eq_ofNat_of_zero_le hs0.1
      have hstx : st < C.x.length := by have := hs0.2.1; omega
      have hcz : codeSz (codeD C.x (st : Int)) = true := by rw [codeD_at hstx]; exact sizedB_mem (goodI_iff.1 RR.out.hg).1 _ (List.getElem_mem hstx)
      have hst0 : (codeD C.x (st : Int)).1 = 0 := by have := hs0.2.2; rw [hst] at this; exact this
      have hmd : 0 ≤ s.made ∧ s.made ≤ 1000000 := by have := RR.out.ok.made; have := RR.out.hN; omega
      have HST := Lib.hid hst
      have HF := Lib.hid (show stepF C.x C.ins C.most s = callM C.x C.most { (s.put (n - 1) (fFlags f (f.2.2.2.2.2.1.set k false))) with notes := s.notes ++ [(2, f.1, (k : Int))] } (fFlags f (f.2.2.2.2.2.1.set k false)) rest (st : Int) 0 true by
        have h9 : ¬ C.most ≤ (s.fs.length : Int) := by have := HN.out; omega
        have h11 : (fCode C.x f).2.2.1.getD ((17 : Int), (k : Int)).2.toNat 0 = (st : Int) := by rw [← HST.out]; show (fCode C.x f).2.2.1.getD k 0 = _; simp [List.getD, hks]
        have h12 : ¬ C.most ≤ ((({ (s.put (n - 1) (fFlags f (f.2.2.2.2.2.1.set k false))) with notes := s.notes ++ [(2, f.1, (k : Int))] } : MS).fs.length : Nat) : Int) := by
          have h13 : ({ (s.put (n - 1) (fFlags f (f.2.2.2.2.2.1.set k false))) with notes := s.notes ++ [(2, f.1, (k : Int))] } : MS).fs.length = s.fs.length := MS.put_len ..
          rw [h13]; exact h9
        rw [HE.out, HFI.out, stepI_17 rfl, if_pos hfl2, if_neg h9, h11]
        unfold callM
        rw [if_neg h9, if_neg h12]
        rfl)
      clear hs0 hcdO hplO hst
      go_wp2_with fail
      refine (specOffC C V g n c s f rest k RR.out.fs HN.out HV.out HJ.out h0 hn1 hnc hcm pb HPB.out l5 hkl hfl (by omega) fb st hfb2.out hfbx (by omega) hks HST.out hstx hcz hst0 hmd i1 hno (by omega) hk6).mono ?_
      rintro e w4 ⟨rfl, vf4, h4⟩
      have H9 := Lib.hid h4
      clear h4
      go_wp2_with fail
      go_end0
      exact ⟨rfl, _, HF.out ▸ H9.out⟩
  · have hfl0 : f.2.2.2.2.2.1.getD k false = false := by simpa using hfl
    have HF := Lib.hid (show stepF C.x C.ins C.most s = { s with fs := fGo f ((pb : Int) + 1) (fPile f) :: rest } by rw [HE.out, HFI.out, stepI_17 rfl, if_neg (show ¬ f.2.2.2.2.2.1.getD ((17 : Int), (k : Int)).2.toNat false = true from hfl), HPB.out])
    go_wp2_with fail
    refine (specOffA C V g n c s f rest k RR.out.fs HN.out HV.out HJ.out h0 hn1 hnc hcm pb HPB.out l5 hkl hfl0).mono ?_
    rintro e w4 ⟨rfl, vf4, h4⟩
    have H9 := Lib.hid h4
    clear h4
    go_wp2_with fail
    go_end0
    exact ⟨rfl, _, HF.out ▸ H9.out⟩
end Go.Proofs.YtgdeclmciflmpaaGreat

/- One step of the reference's machine: all instructions. -/
set_option linter.unusedVariables false
set_option linter.unusedSimpArgs false
set_option maxRecDepth 100000
namespace Go.Proofs.YtgdeclmciflmpaaGreat
open Go.RowKit
/-- One step of the reference's machine. -/
theorem specStep (C : Cfg) (w : World) (vf : Value) (s : MS) (f : Frame) (rest : List Frame) (N : Nat) (h : MM C w vf s) (R : Rdy C.x C.ins C.most N s f rest) :
    Calls Tryz.prog 40 #[.pointer (some ⟨C.M, 0, none⟩)] w (RetN C (stepF C.x C.ins C.most s) w) := by
  have hop := op_range R.insW.1
  have hc : (fIns C.x f).1 = 1 ∨ (fIns C.x f).1 = 2 ∨ (fIns C.x f).1 = 3 ∨ (fIns C.x f).1 = 4 ∨ (fIns C.x f).1 = 5 ∨ (fIns C.x f).1 = 6 ∨ (fIns C.x f).1 = 7 ∨ (fIns C.x f).1 = 8 ∨ (fIns C.x f).1 = 9 ∨ (fIns C.x f).1 = 10 ∨ (fIns C.x f).1 = 11 ∨ (fIns C.x f).1 = 12 ∨ (fIns C.x f).1 = 13 ∨ (fIns C.x f).1 = 14 ∨ (fIns C.x f).1 = 15 ∨ (fIns C.x f).1 = 16 ∨ (fIns C.x f).1 = 17 ∨ (fIns C.x f).1 = 18 := by omega
  rcases hc with e | e | e | e | e | e | e | e | e | e | e | e | e | e | e | e | e | e
  · exact specStep1 C w vf s f rest N h R e
  · exact specStep2 C w vf s f rest N h R e
  · exact specStep3 C w vf s f rest N h R e
  · exact specStep4 C w vf s f rest N h R e
  · exact specStep5 C w vf s f rest N h R e
  · exact specStep6 C w vf s f rest N h R e
  · exact specStep7 C w vf s f rest N h R e
  · exact specStep8 C w vf s f rest N h R e
  · exact specStep9 C w vf s f rest N h R e
  · exact specStep10 C w vf s f rest N h R e
  · exact specStep11 C w vf s f rest N h R e
  · exact specStep12 C w vf s f rest N h R e
  · exact specStep13 C w vf s f rest N h R e
  · exact specStep14 C w vf s f rest N h R e
  · exact specStep15 C w vf s f rest N h R e
  · exact specStep16 C w vf s f rest N h R e
  · exact specStep17 C w vf s f rest N h R e
  · exact specStep18 C w vf s f rest N h R e
end Go.Proofs.YtgdeclmciflmpaaGreat
