/- The program's CheckNotes: walk. -/
import Derived.Test.YtgdeclmciflmpaaChkM
import Derived.Test.YtgdeclmciflmpaaChkI1
import Derived.Test.YtgdeclmciflmpaaChkI2
import Derived.Test.YtgdeclmciflmpaaChkI3
import Derived.Deep.DeepCutAuto
import Derived.Carry
set_option linter.unusedVariables false
set_option linter.unusedSimpArgs false
set_option maxRecDepth 100000
namespace Go.Proofs.Ytgdeclmciflmpaa
open Go.RowKit
attribute [local irreducible] wpList
theorem implTake (w : World) (b : Nat) (F : List Nat) (s : NtSt) (kind id site : Int) (hn : noteOk (kind, id, site) = true) (hI : I64 site) (h : NSt w b F s) (hl : s.2.2.2.length ≤ 1048576) (hlp : s.2.2.1.length ≤ 1048576) :
    Calls Try.prog 47 #[.pointer (some ⟨b, 0, none⟩), .agg #[.int .i64 kind, .int .i64 id, .int .i64 site]] w (RetTk b F s (kind, id, site) w) := by
  obtain ⟨e, o, ps, os⟩ := s
  have hk : kind = 1 ∨ kind = 2 ∨ kind = 3 := by
    unfold noteOk at hn
    simp only [Bool.and_eq_true] at hn
    have := inB_iff.1 hn.1.1.1
    omega
  rcases hk with rfl | rfl | rfl
  · exact implTake1 w b F e o ps os id site hI h hl hlp
  · exact implTake2 w b F e o ps os id site hI h hl hlp
  · exact implTake3 w b F e o ps os id site hI h hl hlp
def chkNR (l : List Note) : Int × Int × Bool := if goodNotes l = true then ((chkR l).1, (chkR l).2, true) else (0, 0, false)
def RetCk (r : Int × Int × Bool) (w : World) (e : Ending) (w' : World) : Prop := e = .returned (.tuple #[.int .i64 r.1, .int .i64 r.2.1, .bool r.2.2]) ∧ Below w.heap.size w w'
theorem open_len (l : List Note) (id : Int) : (openF l id).length ≤ l.length := Nat.le_trans (List.length_filter_le _ _) (sites_len 1 id l)
theorem Try.infoNtSt : (Try.prog.info? 87).map (fun i => (i.zero, i.size, i.bytes)) = some (some (.agg #[.bool false, .bool false, .slice none 0 0, .slice none 0 0]), 4, 56) := by kernel_rfl
theorem wrong_at {l : List Note} {k : Nat} {x y z : Int} (hk : k < l.length) (h : l[k] = (x, y, z)) : wrongAt l k = codeOf (stOf (l.take k) y) (x, y, z) := by
  unfold wrongAt
  rw [show l.getD k (0, 0, 0) = (x, y, z) by rw [List.getD_eq_getElem?_getD, List.getElem?_eq_getElem hk, h]; rfl]
set_option maxHeartbeats 16000000 in
theorem implCheckNotes1 (w : World) (lo hi n c : Nat) (A : Option Addr) (l : List Note) (h : Sl noteR w lo hi A n c l) (hh : hi ≤ w.heap.size) (hn : n ≤ 1048576) :
    Calls Try.prog 12 #[.slice A n c] w (RetCk (chkNR l) w) := by
  have HL := Lib.hid h.lenEq
  obtain ⟨r, hr⟩ : ∃ r, chkNR l = r := ⟨_, rfl⟩
  have HR := Lib.hid hr
  rw [hr]
  clear hr
  obtain ⟨gd, hgd⟩ : ∃ b, goodNotes l = b := ⟨_, rfl⟩
  have HG := Lib.hid hgd
  clear hgd
  go_enter Try.func12, Try.ntmps12
  go_wp2_with fail
  refine (implAreNotes w lo hi n c A l h hh).mono ?_
  rintro e w1 ⟨rfl, hb1⟩
  rw [HG.out]
  cases gd
  · have hr : r = (0, 0, false) := by rw [← HR.out]; unfold chkNR; rw [if_neg (by rw [HG.out]; simp)]
    subst hr
    go_wp2_with fail
    refine bodyPost_ret (v := .tuple #[.int .i64 0, .int .i64 0, .bool false]) (by simp [results, Try.results12, go_sem]) rfl ?_
    exact ⟨rfl, by exact belA⟩
  have hg3 : n ≤ 3000 := by
    have := HG.out
    unfold goodNotes at this
    simp only [Bool.and_eq_true, decide_eq_true_eq] at this
    have := HL.out
    omega
  have HOKS := Lib.hid (show ∀ x, x ∈ l → noteOk x = true from by
    have := HG.out
    unfold goodNotes at this
    simp only [Bool.and_eq_true] at this
    exact fun x hx => List.all_eq_true.1 this.1 x hx)
  have hz1 := hb1.size
  have hmk := fun v : World => run_makeMap (P := Try.prog) 84 v
  go_upto_region 4 with fail
  obtain ⟨M, hM⟩ : ∃ M, w1.heap.size = M := ⟨_, rfl⟩
  obtain ⟨W, hW⟩ : ∃ W, W = w1.alloc (.map #[] 0) := ⟨_, rfl⟩
  have hbW : Below w.heap.size w W := hb1.trans (by rw [hW]; exact Below.alloc (Below.refl _ _) hz1 _)
  have HI0 := Lib.hid (show IdsIs W w.heap.size M (l.take 0) [] by rw [hW, ← hM]; exact IdsIs.made hz1)
  rw [← hW, hM]
  clear hW hb1 hz1 hM
  go_wp2_with fail
  go_loopw [16] (fun v wr => ∃ (k : Nat) (Es : List (Int × Nat × List Nat)), k ≤ n ∧ v = .int .i64 k ∧ Hid (IdsIs wr w.heap.size M (l.take k) Es) ∧ Hid (∀ j, j < k → wrongAt l j = 0) ∧ Hid (∀ id, (sites 1 id (l.take k)).Nodup) ∧ Below w.heap.size w wr) (fun v _ => n - (intOf v).toNat)
  case atStart => exact ⟨0, [], Nat.zero_le _, rfl, HI0, Lib.hid (fun j hj => by omega), Lib.hid (fun id => by simp [sites]), hbW⟩
  case round =>
    obtain ⟨k, Es, hk, rfl, HI, HW, HD, hb⟩ := hrel
    by_cases hlt : k < n
    rotate_left
    · have hr : r = (0, (n : Int), true) := by
        rw [← HR.out]
        unfold chkNR
        rw [if_pos HG.out, chk_end (fun j hj => HW.out j (by have := HL.out; omega)), HL.out]
      subst hr
      go_wp2_with fail
      refine bodyPost_ret (v := .tuple #[.int .i64 0, .int .i64 n, .bool true]) (by simp [results, Try.results12, go_sem]) rfl ?_
      exact ⟨rfl, hb⟩
    obtain ⟨b, o, x, y, z, rfl, hb1, hb2, hl0, i1, i2, i3, c0, c1, c2⟩ := (h.below hb hh).note_at hlt
    have hkl : k < l.length := by have := HL.out; omega
    have HX := Lib.hid hl0
    have HOK := Lib.hid (show noteOk (x, y, z) = true from hl0 ▸ HOKS.out _ (List.getElem_mem hkl))
    clear hl0
    go_upto_region 7 with fail
    obtain ⟨U, hU⟩ : ∃ U, U = wr.alloc (.cells #[.int .i64 x, .int .i64 y, .int .i64 z] 80) := ⟨_, rfl⟩
    obtain ⟨Nb, hNb⟩ : ∃ N, wr.heap.size = N := ⟨_, rfl⟩
    have hbU : Below wr.heap.size wr U := by rw [hU]; exact belA
    have cN0 : U.cell? ⟨Nb, 0, none⟩ = some (.int .i64 x) := by rw [hU, ← hNb]; simp [go_sem]
    have cN1 : U.cell? ⟨Nb, 1, none⟩ = some (.int .i64 y) := by rw [hU, ← hNb]; simp [go_sem]
    have cN2 : U.cell? ⟨Nb, 2, none⟩ = some (.int .i64 z) := by rw [hU, ← hNb]; simp [go_sem]
    have hNU : Nb < U.heap.size := by rw [hU, ← hNb]; simp
    have hNM := Lib.hid (show Nb ∉ M :: (Es.map fun e => e.2.2).flatten from fun hm => by have := HI.out.lt Nb hm; omega)
    rw [← hU, hNb]
    have HIU := Lib.hid (HI.out.keep hbU)
    have hbwU : Below w.heap.size w U := hb.trans (hbU.mono hb.size)
    clear hU c0 c1 c2
    rcases HIU.out.look (id := y) i2 with ⟨hrun, hno⟩ | ⟨pre, b', F, post, hE, hrun⟩
    · have HNO := Lib.hid hno
      clear hno
      go_upto_region 10 with fail
      obtain ⟨X, hX⟩ : ∃ X, U.heap.size = X := ⟨_, rfl⟩
      obtain ⟨T, hT⟩ : ∃ T, T = U.alloc (.cells #[.bool false, .bool false, .slice none 0 0, .slice none 0 0] 87) := ⟨_, rfl⟩
      have hbT : Below U.heap.size U T := by rw [hT]; exact belA
      have HIT := HIU.out.keep hbT
      have hXT : T.heap[X]? = some (.cells #[.bool false, .bool false, .slice none 0 0, .slice none 0 0] 87) := by rw [hT, ← hX]; exact alloc_new' rfl
      rw [← hT, hX]
      obtain ⟨V, hup, HV0, hfV⟩ := HIT.new (id := y) i2 HNO.out (NSt.new hXT) (by have := hbwU.size; omega) (fun hm => by have := HIU.out.lt X hm; omega)
      have HV := Lib.hid HV0
      have hMw : w.heap.size ≤ M := HIT.2.2.2.1 M (List.mem_cons_self ..)
      have hNM1 : Nb ≠ M := fun e => hNM.out (by rw [e]; exact List.mem_cons_self ..)
      clear hT hX
      have hbV : Below w.heap.size w V := below_fr (hbwU.trans (hbT.mono hbwU.size)) hfV (fun i hi => by rw [List.mem_singleton] at hi; omega)
      have cT0 := below_cell hbT cN0
      have cT1 := below_cell hbT cN1
      have cT2 := below_cell hbT cN2
      have cV0 := cell_fr hfV (by simpa using hNM1) cT0
      have cV1 := cell_fr hfV (by simpa using hNM1) cT1
      have cV2 := cell_fr hfV (by simpa using hNM1) cT2
      clear cN0 cN1 cN2 cT2 hfV hXT hbU hbT HIT hNU hNM hMw hNM1 HV0
      go_upto_region 11 with fail
      clear hup cT0 cT1 hrun
      obtain ⟨cN0, cN1, cN2⟩ := And.intro cV0 (And.intro cV1 cV2)
      clear cV0 cV1 cV2
      have hmem : (y, X, [X]) ∈ Es ++ (y, X, [X]) :: [] := List.mem_append_right _ (List.mem_cons_self ..)
      go_wp2_with fail
      refine (implTake V X [X] (stOf (l.take k) y) x y z HOK.out i3 (HV.out.2.1 _ hmem) (by have := open_len (l.take k) y; rw [List.length_take] at this; show (openF (l.take k) y).length ≤ _; omega) (by have := sites_len 1 y (l.take k); rw [List.length_take] at this; show (sites 1 y (l.take k)).length ≤ _; omega)).mono ?_
      rintro e w8 ⟨rfl, hf8, hs8⟩
      have hb8 : Below w.heap.size w w8 := below_fr hbV hf8 (fun i hi => HV.out.2.2.2.1 i (List.mem_cons_of_mem _ (List.mem_flatten.2 ⟨[X], List.mem_map.2 ⟨_, hmem, rfl⟩, hi⟩)))
      obtain ⟨cd, hcd⟩ : ∃ c, codeOf (stOf (l.take k) y) (x, y, z) = c := ⟨_, rfl⟩
      rw [hcd] at hs8 ⊢
      have HCD := Lib.hid hcd
      have HS8 := Lib.hid hs8
      have HF8 := Lib.hid hf8
      clear hcd hs8 hf8 cN0 cN1 cN2 hmem
      by_cases h0 : cd = 0
      · subst h0
        obtain ⟨F', hns, hF'⟩ := HS8.out rfl
        obtain ⟨hst, hnd⟩ := st_step HOK.out HCD.out (HD.out y)
        have htk : l.take (k + 1) = l.take k ++ [(x, y, z)] := by rw [List.take_succ_eq_append_getElem hkl, HX.out]
        have HI8 := Lib.hid (show IdsIs w8 w.heap.size M (l.take (k + 1)) (Es ++ (y, X, F') :: []) by
          rw [htk]
          exact HV.out.step rfl HF8.out (by rw [hst]; exact hns) hF' hbV.size)
        have HW8 := Lib.hid (show ∀ j, j < k + 1 → wrongAt l j = 0 from fun j hj => by
          rcases Nat.lt_or_ge j k with h | h
          · exact HW.out j h
          · have : j = k := by omega
            subst this
            rw [wrong_at hkl HX.out]
            exact HCD.out)
        have HD8 := Lib.hid (show ∀ id, (sites 1 id (l.take (k + 1))).Nodup from fun id => by
          rw [htk]
          by_cases e : y = id
          · subst e; exact hnd
          · rw [(st_other e).2]; exact HD.out id)
        clear hns hF' hst hnd htk
        go_wp2_with fail
        go_roundw
        case rel => exact ⟨k + 1, _, by omega, by go_num, HI8, HW8, HD8, hb8⟩
        case measure => simp [intOf]; omega
      · have hne : (cd != 0) = true := by simpa using h0
        have hr : r = (cd, (k : Int), true) := by
          rw [← HR.out]
          unfold chkNR
          rw [if_pos HG.out, chk_at HW.out hkl ((wrong_at hkl HX.out).trans HCD.out) h0]
        subst hr
        clear h0
        go_wp2_with fail
        refine bodyPost_ret (v := .tuple #[.int .i64 cd, .int .i64 k, .bool true]) (by simp [results, Try.results12, go_sem]) rfl ?_
        exact ⟨rfl, hb8⟩
    · subst hE
      obtain ⟨V, hV⟩ : ∃ V, V = U := ⟨_, rfl⟩
      rw [← hV] at HIU hrun cN0 cN1 cN2 hbwU ⊢
      have HV := HIU
      have hbV := hbwU
      clear hV hbU hNU hNM
      go_upto_region 11 with fail
      have hmem : (y, b', F) ∈ pre ++ (y, b', F) :: post := List.mem_append_right _ (List.mem_cons_self ..)
      go_wp2_with fail
      refine (implTake V b' F (stOf (l.take k) y) x y z HOK.out i3 (HV.out.2.1 _ hmem) (by have := open_len (l.take k) y; rw [List.length_take] at this; show (openF (l.take k) y).length ≤ _; omega) (by have := sites_len 1 y (l.take k); rw [List.length_take] at this; show (sites 1 y (l.take k)).length ≤ _; omega)).mono ?_
      rintro e w8 ⟨rfl, hf8, hs8⟩
      have hb8 : Below w.heap.size w w8 := below_fr hbV hf8 (fun i hi => HV.out.2.2.2.1 i (List.mem_cons_of_mem _ (List.mem_flatten.2 ⟨F, List.mem_map.2 ⟨_, hmem, rfl⟩, hi⟩)))
      obtain ⟨cd, hcd⟩ : ∃ c, codeOf (stOf (l.take k) y) (x, y, z) = c := ⟨_, rfl⟩
      rw [hcd] at hs8 ⊢
      have HCD := Lib.hid hcd
      have HS8 := Lib.hid hs8
      have HF8 := Lib.hid hf8
      clear hcd hs8 hf8 cN0 cN1 cN2 hmem
      by_cases h0 : cd = 0
      · subst h0
        obtain ⟨F', hns, hF'⟩ := HS8.out rfl
        obtain ⟨hst, hnd⟩ := st_step HOK.out HCD.out (HD.out y)
        have htk : l.take (k + 1) = l.take k ++ [(x, y, z)] := by rw [List.take_succ_eq_append_getElem hkl, HX.out]
        have HI8 := Lib.hid (show IdsIs w8 w.heap.size M (l.take (k + 1)) (pre ++ (y, b', F') :: post) by
          rw [htk]
          exact HV.out.step rfl HF8.out (by rw [hst]; exact hns) hF' hbV.size)
        have HW8 := Lib.hid (show ∀ j, j < k + 1 → wrongAt l j = 0 from fun j hj => by
          rcases Nat.lt_or_ge j k with h | h
          · exact HW.out j h
          · have : j = k := by omega
            subst this
            rw [wrong_at hkl HX.out]
            exact HCD.out)
        have HD8 := Lib.hid (show ∀ id, (sites 1 id (l.take (k + 1))).Nodup from fun id => by
          rw [htk]
          by_cases e : y = id
          · subst e; exact hnd
          · rw [(st_other e).2]; exact HD.out id)
        clear hns hF' hst hnd htk
        go_wp2_with fail
        go_roundw
        case rel => exact ⟨k + 1, _, by omega, by go_num, HI8, HW8, HD8, hb8⟩
        case measure => simp [intOf]; omega
      · have hne : (cd != 0) = true := by simpa using h0
        have hr : r = (cd, (k : Int), true) := by
          rw [← HR.out]
          unfold chkNR
          rw [if_pos HG.out, chk_at HW.out hkl ((wrong_at hkl HX.out).trans HCD.out) h0]
        subst hr
        clear h0
        go_wp2_with fail
        refine bodyPost_ret (v := .tuple #[.int .i64 cd, .int .i64 k, .bool true]) (by simp [results, Try.results12, go_sem]) rfl ?_
        exact ⟨rfl, hb8⟩
end Go.Proofs.Ytgdeclmciflmpaa
