/- Heights of a code: the program's walk. -/
import Derived.Test.YtgoinmdnpaknpaaGreatHeightQ
import Derived.Test.YtgoinmdnpaknpaaGreatRepI
import Derived.Test.YtgoinmdnpaknpaaGreatChk
import Derived.Test.YtgoinmdnpaknpaaGreatOwnI
import Derived.Deep.LoopGhost
import Derived.WalkSmall
import Derived.Maps.AppendAt
set_option linter.unusedVariables false
set_option linter.unusedSimpArgs false
set_option maxRecDepth 100000
namespace Go.Proofs.YtgoinmdnpaknpaaGreat
open Go.RowKit
theorem IntRow.put {w : World} {base g n c : Nat} {l : List Int} (h : IntRow w base (.slice (some ⟨g, 0, none⟩) n c) l) (i : Nat) (v : Int) : IntRow (w.setCell ⟨g, i, none⟩ (.int .i64 v)) base (.slice (some ⟨g, 0, none⟩) n c) (l.set i v) := by
  obtain ⟨A', m', c', e, rfl⟩ := h.form
  injection e with e1 e2 e3
  subst e2
  unfold IntRow at h ⊢
  have h1 := (h.stored i (.int .i64 v)).1
  rw [List.length_set, List.map_set]
  exact h1
theorem IntRow.pop {w : World} {base g n c : Nat} {l : List Int} {x : Int} (h : IntRow w base (.slice (some ⟨g, 0, none⟩) n c) (l ++ [x])) : IntRow w base (.slice (some ⟨g, 0, none⟩) (n - 1) c) l := by
  obtain ⟨A', m', c', e, rfl⟩ := h.form
  injection e with e1 e2 e3
  subst e2
  unfold IntRow at h ⊢
  simp only [List.length_append, List.length_cons, List.length_nil, List.map_append] at h ⊢
  exact ownsRow_pop (by simp) h
theorem IntRow.len {w : World} {base : Nat} {A : Option Addr} {n c : Nat} {l : List Int} (h : IntRow w base (.slice A n c) l) : l.length = n := by
  obtain ⟨A', m', c', e, rfl⟩ := h.form
  injection e with e1 e2 e3
  exact e2.symm
theorem IntRow.blk {w : World} {base : Nat} {A : Option Addr} {n c : Nat} {l : List Int} (h : IntRow w base (.slice A n c) l) (hn : 0 < n) : ∃ g, A = some ⟨g, 0, none⟩ := by
  have hl := h.len
  subst hl
  rcases (ownsRow_cases (World.ownsRow.mono h (Nat.zero_le _))).2 with ⟨_, h0, _⟩ | ⟨g, rfl, _⟩
  · omega
  · exact ⟨g, rfl⟩
/-- The two rows of the search for heights: the heights (block gh), and what waits. -/
structure HtSt (W : World) (B gh n c : Nat) (t : Value) (hs os : List Int) (wr : World) : Prop where
  hh : IntRow wr B (.slice (some ⟨gh, 0, none⟩) n c) hs
  ho : IntRow wr B t os
  ne : ∀ q, t.ownBlock = some q → ¬ q = gh
  bl : Below B W wr
  ge : B ≤ wr.heap.size
section
variable {W wr w' : World} {B gh n c : Nat} {t : Value} {hs os : List Int}
theorem HtSt.far (h : HtSt W B gh n c t hs os wr) (hk : ∀ k, k < wr.heap.size → w'.heap[k]? = wr.heap[k]?) (hb : Below B wr w') (hz : wr.heap.size ≤ w'.heap.size) : HtSt W B gh n c t hs os w' :=
  ⟨h.hh.keepR fun k _ h2 _ => hk k h2, h.ho.keepR fun k _ h2 _ => hk k h2, h.ne, h.bl.trans hb, Nat.le_trans h.ge hz⟩
theorem HtSt.below (h : HtSt W B gh n c t hs os wr) (hb : Below wr.heap.size wr w') : HtSt W B gh n c t hs os w' := h.far hb.block (hb.mono h.ge) hb.size
theorem HtSt.put (h : HtSt W B gh n c t hs os wr) (i : Nat) (v : Int) : HtSt W B gh n c t (hs.set i v) os (wr.setCell ⟨gh, i, none⟩ (.int .i64 v)) := by
  have hg := (World.ownsRow.lt h.hh gh rfl).1
  exact ⟨h.hh.put i v, h.ho.keepR fun k _ h2 h3 => Below.heap_setCell _ _ _ _ (h.ne k h3), h.ne, h.bl.setCell hg _, by simpa [World.setCell] using h.ge⟩
theorem HtSt.app (h : HtSt W B gh n c t hs os wr) {v' : Value} {p : Int} (hown : w'.ownsRow B 3 1 v' (os.length + 1) (os.map (Value.int .i64) ++ [.int .i64 p])) (hg : wr.grownBy w' t.ownBlock) {N : Nat} (hat : v'.ownBlock = t.ownBlock ∨ v'.ownBlock = some N) (hN : wr.heap.size ≤ N) : HtSt W B gh n c v' hs (os ++ [p]) w' := by
  refine ⟨h.hh.keepR fun k _ h2 h3 => hg.block k h2 (fun e => h.ne k e.symm (by simpa [Value.ownBlock] using h3.symm)), ?_, ?_, ?_, Nat.le_trans h.ge hg.size⟩
  · unfold IntRow; simpa using hown
  · intro q hq
    rcases hat with e | e
    · exact h.ne q (e ▸ hq)
    · rw [e] at hq
      injection hq with hq
      have := (World.ownsRow.lt h.hh gh rfl).2
      omega
  · exact h.bl.grown hg h.ge fun k hk => (World.ownsRow.lt h.ho k hk).1
theorem HtSt.at_ (h : HtSt W B gh n c t hs os wr) {p : Nat} (hp : p < n) : ∃ v, wr.cell? ⟨gh, p, none⟩ = some (.int .i64 v) ∧ hv hs (p : Int) = v := by
  have hl := h.hh.len
  exact ⟨_, h.hh.at_ (k := p) (by omega), hv_get (by omega)⟩
theorem HtSt.frz (h : HtSt W B gh n c t hs os wr) (p : Nat) : wr.frozen? ⟨gh, p, none⟩ = false := by
  obtain ⟨A', m', c', e, rfl⟩ := h.hh.form
  injection e with e1 e2 e3
  subst e2
  exact World.ownsRow.frozenAt h.hh p
theorem HtSt.lt (h : HtSt W B gh n c t hs os wr) : gh < wr.heap.size := (World.ownsRow.lt h.hh gh rfl).2
end
theorem HtSt.pop {W wr : World} {B gh n c go m ct : Nat} {hs os : List Int} {p : Int} (h : HtSt W B gh n c (.slice (some ⟨go, 0, none⟩) m ct) hs (os ++ [p]) wr) : HtSt W B gh n c (.slice (some ⟨go, 0, none⟩) (m - 1) ct) hs os wr := ⟨h.hh, h.ho.pop, fun q hq => h.ne q hq, h.bl, h.ge⟩
/-- A third row, which is only read. -/
structure NxSt (gh : Nat) (t vN : Value) (nx : List Int) (wr : World) : Prop where
  nr : IntRow wr 0 vN nx
  n1 : ∀ q, vN.ownBlock = some q → ¬ q = gh
  n2 : ∀ q, vN.ownBlock = some q → ¬ t.ownBlock = some q
section
variable {wr w' : World} {gh : Nat} {t vN : Value} {nx : List Int}
theorem NxSt.below (h : NxSt gh t vN nx wr) (hb : Below wr.heap.size wr w') : NxSt gh t vN nx w' := ⟨h.nr.below hb, h.n1, h.n2⟩
theorem NxSt.put (h : NxSt gh t vN nx wr) (i : Nat) (v : Value) : NxSt gh t vN nx (wr.setCell ⟨gh, i, none⟩ v) :=
  ⟨h.nr.keepR fun k _ _ h3 => Below.heap_setCell _ _ _ _ (h.n1 k h3), h.n1, h.n2⟩
theorem NxSt.app (h : NxSt gh t vN nx wr) {v' : Value} (hg : wr.grownBy w' t.ownBlock) {N : Nat} (hat : v'.ownBlock = t.ownBlock ∨ v'.ownBlock = some N) (hN : wr.heap.size ≤ N) : NxSt gh v' vN nx w' :=
  ⟨h.nr.keepR fun k _ h2 h3 => hg.block k h2 (fun e => h.n2 k h3 e.symm), h.n1, fun q hq e => by
    rcases hat with e1 | e1
    · exact h.n2 q hq (e1 ▸ e)
    · rw [e1] at e; injection e with e; have := (World.ownsRow.lt h.nr q hq).2; omega⟩
end
def RetHt (o : Option (List Int)) (w : World) (e : Ending) (w' : World) : Prop :=
  ∃ A n c, e = .returned (.tuple #[.slice A n c, .bool o.isSome]) ∧ IntRow w' w.heap.size (.slice A n c) (o.getD []) ∧ Below w.heap.size w w'
theorem RetHt.no {o : Option (List Int)} {w w' : World} (h : o = none) (hb : Below w.heap.size w w') : RetHt o w (.returned (.tuple #[.slice none 0 0, .bool false])) w' := by
  subst h; exact ⟨_, _, _, rfl, IntRow.nil_ _ _, hb⟩
theorem RetHt.yes {o : Option (List Int)} {l : List Int} {w w' : World} {A : Option Addr} {n c : Nat} (h : o = some l) (hr : IntRow w' w.heap.size (.slice A n c) l) (hb : Below w.heap.size w w') : RetHt o w (.returned (.tuple #[.slice A n c, .bool true])) w' := by
  subst h; exact ⟨_, _, _, rfl, hr, hb⟩
theorem parF_bd {x : Image} (hx : ∀ c, c ∈ x → 0 ≤ c.1 ∧ c.1 ≤ 2) (k : Int) : 0 ≤ parF x k ∧ parF x k ≤ 2 := by
  unfold parF
  rcases Nat.lt_or_ge k.toNat x.length with h | h
  · rw [List.getD_eq_getElem?_getD, List.getElem?_eq_getElem h]; exact hx _ (List.getElem_mem h)
  · rw [List.getD_eq_getElem?_getD, List.getElem?_eq_none h]; simp
theorem takesF_bd {x : Image} (hx : ∀ c, c ∈ x → 0 ≤ c.1 ∧ c.1 ≤ 2) (i : Ins) : 0 ≤ takesF x i ∧ takesF x i ≤ 2 := by
  have := parF_bd hx i.2
  unfold takesF; split
  · omega
  · split
    · omega
    · split <;> omega
theorem pad_in {rows : List Row} {m : Nat} {k : Nat} {r : Row} (h : rowsB rows m = true) (hk : k < rows.length) (hr : rows[k] = r) : 0 ≤ r.2.2 ∧ r.2.2 < m := by
  have h1 := List.all_eq_true.1 h k (List.mem_range.2 hk)
  rw [rowAt_eq hk hr] at h1
  unfold rowOk at h1
  simp only [Bool.and_eq_true] at h1
  have := inB_iff.1 h1.2
  omega
theorem next_in {I : List Ins} {p : Nat} (h : goesB I = true) (hp : p < I.length) : ∀ s, s ∈ nextAt I (p : Int) → 0 ≤ s ∧ s < I.length := by
  intro s hs
  have h1 := List.all_eq_true.1 h p (List.mem_range.2 hp)
  unfold goesI at h1
  have h2 := List.all_eq_true.1 h1 s (by unfold nextAt at hs; simpa using hs)
  have := inB_iff.1 h2
  omega
theorem ins_at {I : List Ins} {p : Nat} {i : Ins} (hp : p < I.length) (h : I[p] = i) : I.getD ((p : Int).toNat) (0, 0) = i := by simp [List.getD, hp, h]
set_option maxHeartbeats 16000000 in
theorem implHeightsOf (w : World) (lo hi : Nat) (A : Option Addr) (n c : Nat) (x : List Code) (x0 x1 : Int) (A2 A3 A4 : Option Addr) (n2 c2 n3 c3 n4 c4 : Nat) (I : List Ins) (rows : List Row) (hx : Sl CodeR w lo hi A n c x) (h3 : Sl InsR w lo hi A3 n3 c3 I) (h4 : Sl RowR w lo hi A4 n4 c4 rows) (hh : hi ≤ w.heap.size)
    (hn1 : 1 ≤ n3) (hn2 : n3 ≤ 300) (hp : ∀ c, c ∈ x → 0 ≤ c.1 ∧ c.1 ≤ 2) (h7 : ∀ i, i ∈ I → i.1 = 7 → 0 ≤ i.2 ∧ i.2 < n) (hg : goesB I = true) (hr : rowsB rows n3 = true) :
    Calls Tryz.prog 74 #[.agg #[.slice A n c], .agg #[.int .i64 x0, .int .i64 x1, .slice A2 n2 c2, .slice A3 n3 c3, .slice A4 n4 c4]] w (RetHt (heightsF x I rows) w) := by
  obtain ⟨inf, hif, hz0, hz1, hz2⟩ := info_parts Tryz.infoInt
  have HIF := Lib.hid hif
  have HZ0 := Lib.hid hz0
  have HZ1 := Lib.hid hz1
  have HZ2 := Lib.hid hz2
  have HL3 := Lib.hid h3.lenEq
  have HL4 := Lib.hid h4.lenEq
  have HP := Lib.hid hp
  have H7 := Lib.hid h7
  have HG := Lib.hid hg
  have HR := Lib.hid hr
  have b4 := h4.lenLe
  clear hif hz0 hz1 hz2 hp h7 hg hr
  go_enter Tryz.func74, Tryz.ntmps74
  go_wp2_with fail
  obtain ⟨W, hW⟩ : ∃ W, W = (w.alloc (.cells #[.slice A n c] 24)).alloc (.cells #[.int .i64 x0, .int .i64 x1, .slice A2 n2 c2, .slice A3 n3 c3, .slice A4 n4 c4] 39) := ⟨_, rfl⟩
  have hbW : Below w.heap.size w W := by rw [hW]; exact belA
  have hzW : W.heap.size = w.heap.size + 2 := by rw [hW]; simp
  have kx := Lib.hid (show W.cell? ⟨w.heap.size, 0, none⟩ = some (.slice A n c) by rw [hW]; simp [go_sem])
  have k3 := Lib.hid (show W.cell? ⟨w.heap.size + 1, 3, none⟩ = some (.slice A3 n3 c3) by rw [hW]; simp [go_sem])
  have k4 := Lib.hid (show W.cell? ⟨w.heap.size + 1, 4, none⟩ = some (.slice A4 n4 c4) by rw [hW]; simp [go_sem])
  rw [← hW]
  clear hW
  replace hx := hx.below hbW hh
  replace h3 := h3.below hbW hh
  replace h4 := h4.below hbW hh
  have hhW : hi ≤ W.heap.size := by omega
  have kq : (W.alloc (.cells #[.int .i64 (-1)] 3)).cell? ⟨w.heap.size + 1 + 1, 0, none⟩ = some (.int .i64 (-1)) := by
    rw [show w.heap.size + 1 + 1 = W.heap.size by omega]; simp [go_sem]
  refine (repeatInts _ (w.heap.size + 1 + 1) 1 (-1) n3 kq hn1 (by omega)).mono ?_
  rintro e wR ⟨v, rfl, rR, hbR⟩
  obtain ⟨AR, mR, cR, rfl, hmR⟩ := rR.form
  have hmR' : n3 = mR := by rw [hmR]; simp
  subst hmR'
  obtain ⟨gh, rfl⟩ := rR.blk (by omega)
  have hbR' : Below W.heap.size W wR := by exact belA
  have st0 : HtSt W W.heap.size gh n3 cR (.slice none 0 0) (List.replicate n3 (-1)) [] wR := ⟨rR.mono (by simp), IntRow.nil_ _ _, fun q hq => (by cases hq), hbR', hbR'.size⟩
  have st1 := st0.below (show Below wR.heap.size wR (wR.alloc (.cells #[.int .i64 0] 3)) by exact belA)
  obtain ⟨v0, kc0, _⟩ := st1.at_ (p := 0) (by omega)
  have kf0 := st1.frz 0
  have k4w := (hbR'.cell (p := ⟨w.heap.size + 1, 4, none⟩) (show w.heap.size + 1 < W.heap.size by omega)).trans k4.out
  have hgh : W.heap.size ≤ gh := (World.ownsRow.lt st0.hh gh rfl).1
  have hne1 : ¬ gh = w.heap.size + 1 := by omega
  have hne2 : ¬ w.heap.size + 1 = gh := by omega
  have hzR : w.heap.size + 1 < wR.heap.size := by have := hbR'.size; omega
  have hzW1 : w.heap.size + 1 < W.heap.size := by omega
  clear hzW
  clear kq hmR hbR rR
  go_wp2_with fail
  obtain ⟨w1, hw1⟩ : ∃ w1, w1 = (wR.alloc (.cells #[.int .i64 0] 3)).setCell ⟨gh, 0, none⟩ (.int .i64 0) := ⟨_, rfl⟩
  have st2 : HtSt W W.heap.size gh n3 cR (.slice (some ⟨wR.heap.size, 0, none⟩) 1 1) ((List.replicate n3 (-1)).set 0 0) [0] w1 := by
    have h1 := st1.put 0 0
    have hl := st0.lt
    rw [hw1]
    exact ⟨h1.hh, (IntRow.new1 (w := wR) rfl hbR'.size 0).keepR (fun k _ hk e => Below.heap_setCell _ _ _ _ (by simp [Value.ownBlock] at e; show k ≠ gh; omega)), fun q hq => by (simp [Value.ownBlock] at hq; omega), h1.bl, h1.ge⟩
  have pd0 : PadSt x I rows 0 ((List.replicate n3 (-1)).set 0 0) [0] := by
    have := PadSt.start (x := x) (I := I) (rows := rows) (by rw [HL3.out]; exact hn1)
    rwa [HL3.out] at this
  rw [← hw1]
  clear hw1 st0 st1 kc0 kf0 hbR' k4w
  go_loopw [7, 27] (fun t i wr => ∃ (tt : Value) (k : Nat) (hs os : List Int), k ≤ n4 ∧ i = .int .i64 k ∧ tt = t ∧ HtSt W W.heap.size gh n3 cR tt hs os wr ∧ PadSt x I rows k hs os) (fun _ i _ => n4 - (intOf i).toNat)
  case atStart => exact ⟨_, 0, _, _, Nat.zero_le _, rfl, rfl, st2, pd0⟩
  case round =>
    clear st2 pd0
    obtain ⟨t, k, hs, os, hk, rfl, rfl, st, pd⟩ := hrel
    have hge := st.ge
    have hlo := st.lt
    by_cases hlt : k < n4
    · obtain ⟨b, o, y0, y1, y2, rfl, _, _, hl0, i0, i1, i2, d0, d1, d2⟩ := Row_at (h4.below st.bl hhW) hlt
      have hkl : k < rows.length := by have := HL4.out; omega
      have hpi := pad_in HR.out hkl hl0
      obtain ⟨p, hpe⟩ := Int.eq_ofNat_of_zero_le hpi.1
      simp only at hpe
      subst hpe
      have hpn : p < n3 := by have := hpi.2; simp only at this; omega
      obtain ⟨v, kv, hv0⟩ := st.at_ hpn
      have hfz := st.frz p
      have hol : os.length ≤ 300 := by have := pd.cnt; have := HL3.out; omega
      by_cases hneg : v < 0
      · have PD := Lib.hid (pd.new hkl hl0 (by show hv hs (p : Int) < 0; rw [hv0]; exact hneg) (by show (0 : Int) ≤ p; omega) (by show (p : Int).toNat < I.length; have := HL3.out; omega))
        have st3 := (st.put p 0).below (Below.alloc (Below.refl _ _) (Nat.le_refl _) (.cells #[.int .i64 y0, .int .i64 y1, .int .i64 p] 71))
        have st4 := st3.below (Below.alloc (Below.refl _ _) (Nat.le_refl _) (.cells #[.int .i64 p] 3))
        have hs4 : ((wr.setCell ⟨gh, p, none⟩ (.int .i64 0)).alloc (.cells #[.int .i64 y0, .int .i64 y1, .int .i64 p] 71)).heap.size = wr.heap.size + 1 := by simp [World.setCell]
        have HS4 := Lib.hid hs4
        clear hl0 hpi st3 hv0 pd hs4
        go_wp2_with (at_builtin; refine wpList_append_own_at _ rfl _ _ 35 rfl W.heap.size 3 inf (.int .i64 0) 1 8 Tryz.underlying35 HIF.out HZ0.out HZ1.out HZ2.out rfl (by decide) t os.length (os.map (Value.int .i64)) rfl st4.ho ⟨wr.heap.size + 1, 0, none⟩ 1 1 [.int .i64 p] rfl rfl (cell_new1 _ _ _ HS4.out) (by simp [Value.oneCell']) (by unfold maxLen; omega) (by omega) st4.ge ?_)
        intro t2 w2 hown hgr _ hat
        have st5 := st4.app hown hgr hat (by simp [World.setCell])
        clear hown hgr hat st4 st
        go_wp2_with fail
        go_roundw
        case rel => exact ⟨_, k + 1, _, _, by omega, by go_num, rfl, st5, PD.out⟩
        case measure => simp [intOf]; omega
      · have PD := Lib.hid (pd.old hkl hl0 (by show 0 ≤ hv hs (p : Int); rw [hv0]; omega))
        clear hl0 hpi hv0 pd
        go_wp2_with fail
        go_roundw
        case rel => exact ⟨_, k + 1, hs, os, by omega, by go_num, rfl, st.below (by exact belA), PD.out⟩
        case measure => simp [intOf]; omega
    · have rn := Lib.hid (show RunSt x I rows hs os from by
        have e : k = rows.length := by have := HL4.out; omega
        subst e
        exact pd.run)
      have hcnt : unmet hs + os.length ≤ n3 := by have := pd.cnt; have := HL3.out; omega
      clear pd
      go_wp2_with fail
      go_loopg [7] (2 * unmet hs + os.length) (fun gk t wr => ∃ tt hs os, tt = t ∧ HtSt W W.heap.size gh n3 cR tt hs os wr ∧ RunSt x I rows hs os ∧ 2 * unmet hs + os.length ≤ gk ∧ unmet hs + os.length ≤ n3)
      case atStart => exact ⟨_, hs, os, rfl, st, rn.out, Nat.le_refl _, hcnt⟩
      case round =>
        clear st rn hcnt hlo hge
        obtain ⟨t, hs, os, rfl, st, rn, hgk, hcnt⟩ := hrel
        have hge := st.ge
        have hlo := st.lt
        obtain ⟨At, m, ct, rfl, hm⟩ := st.ho.form
        rcases List.eq_nil_or_concat os with h0 | ⟨os', p, h0⟩
        · subst h0
          have hm0 : 0 = m := by simpa using hm.symm
          subst hm0
          have hsol := rn.sol
          have hret := Lib.hid (RetHt.yes (w := w) hsol (st.hh.mono (by omega)) (hbW.trans (st.bl.mono (by omega))))
          clear hsol rn hm
          go_wp2_with fail
          go_ret2
          exact hret.out
        · rw [List.concat_eq_append] at h0
          subst h0
          have hm1 : 1 ≤ m := by rw [hm]; simp
          have hmo : os'.length = m - 1 := by rw [hm]; simp
          have hm3 : m ≤ 300 := by rw [hm]; omega
          obtain ⟨go, rfl⟩ := st.ho.blk (by omega)
          obtain ⟨hp1, hp2⟩ := hv_pos (rn.inv.pos p (by simp))
          obtain ⟨q, hqe⟩ := Int.eq_ofNat_of_zero_le hp1
          subst hqe
          have hqn : q < n3 := by have h1 := st.hh.len; have h2 : q < hs.length := hp2; omega
          have kp := st.ho.at_ (k := os'.length) (by simp)
          rw [List.getElem_append_right (Nat.le_refl _)] at kp
          simp only [Nat.sub_self, List.getElem_cons_zero] at kp
          rw [hmo] at kp
          have e1 : IntKind.i64.wrap ((m : Int) - 1) = (m : Int) - 1 := IntWalk.i64_in _ (by omega)
          have e2 : ((m : Int) - 1).toNat = m - 1 := by omega
          have e3 : (0 : Int) ≤ (m : Int) - 1 := by omega
          have e4 : (m : Int) - 1 < (m : Int) := by omega
          have hpop := st.pop
          have hmc : m ≤ ct := by
            rcases (ownsRow_cases (World.ownsRow.mono st.ho (Nat.zero_le _))).2 with ⟨h0, _⟩ | ⟨_, _, h0, _⟩
            · cases h0
            · rw [hm]; exact h0
          have e5 : (m : Int) - 1 ≤ (ct : Int) := by omega
          have e6 : m - 1 ≤ ct := by omega
          obtain ⟨v, kv, hv0⟩ := st.at_ hqn
          have HV := Lib.hid hv0
          have HM := Lib.hid hm
          have HMO := Lib.hid hmo
          have hvb : 0 ≤ v ∧ v ≤ 40 := ⟨by rw [← hv0]; exact rn.inv.pos _ (by simp), by rw [← hv0]; exact rn.inv.le _⟩
          obtain ⟨hv1, hv2⟩ := hvb
          obtain ⟨bi, oi, o', k', rfl, _, _, hl0, i0, i1, f0, f1⟩ := Ins_at (h3.below st.bl hhW) hqn
          have hqI : q < I.length := by have := HL3.out; omega
          have HIQ := Lib.hid (ins_at hqI hl0)
          have h7' : o' = 7 → 0 ≤ k' ∧ k' < n := fun e => H7.out (o', k') (hl0 ▸ List.getElem_mem hqI) e
          have cx := (st.bl.cell (p := ⟨w.heap.size, 0, none⟩) (show w.heap.size < W.heap.size by omega)).trans kx.out
          have c3' := (st.bl.cell (p := ⟨w.heap.size + 1, 3, none⟩) (show w.heap.size + 1 < W.heap.size by omega)).trans k3.out
          have RN := Lib.hid rn
          have H7' := Lib.hid h7'
          have hxr := hx.below st.bl hhW
          clear hm hmo hv0 hl0 rn h7' hp1 hp2
          go_wp2_with fail
          obtain ⟨T, hT⟩ : ∃ T, takesF x (o', k') = T := ⟨_, rfl⟩
          obtain ⟨P, hP⟩ : ∃ P, putsF (o', k') = P := ⟨_, rfl⟩
          have hTb := takesF_bd HP.out (o', k')
          have hPb := putsF_bd (o', k')
          rw [hT] at hTb
          rw [hP] at hPb
          have HT := Lib.hid hT
          have HPU := Lib.hid hP
          obtain ⟨hT0, hT2⟩ := hTb
          obtain ⟨hP0, hP1⟩ := hPb
          clear hT hP
          go_region_held3 (fun V => V.cell? ⟨w.heap.size, 0, none⟩ = some (.slice A n c) ∧ V.cell? ⟨w.heap.size + 1, 3, none⟩ = some (.slice (some ⟨bi, oi, none⟩) n3 c3) ∧ V.cell? ⟨bi, oi + q * 2, none⟩ = some (.int .i64 o') ∧ V.cell? ⟨bi, oi + q * 2 + 1, none⟩ = some (.int .i64 k')) (first | exact ⟨cx, c3', f0, f1⟩ | exact ⟨cx2, c32, f02, f12⟩)
            ((go_at_call 101; ((with_reducible refine (implTakesPuts _ lo hi A n c x o' k' (hxr.below (show Below wr.heap.size wr _ by exact belA) (by omega)) (by first | omega | (simp; done) | (simp; omega)) H7'.out).mono ?_); rintro e w2 ⟨rfl, hb2⟩; have b2 : Below wr.heap.size wr w2 := (by exact belA); have cx2 := below_cell b2 cx; have c32 := below_cell b2 c3'; have f02 := below_cell b2 f0; have f12 := below_cell b2 f1; rw [HT.out, HPU.out])))
          have kv2 := below_cell b2 kv
          have st2 := hpop.below b2
          have z2 := b2.size
          have rT : IntKind.i64.wrap (v - T) = v - T := IntWalk.i64_in _ (by omega)
          have rP : IntKind.i64.wrap (v - T + P) = v - T + P := IntWalk.i64_in _ (by omega)
          by_cases hfew : v < T
          · have hno := Lib.hid (RN.out.few (p := (q : Int)) (by simp) (by rw [HIQ.out, HT.out, HV.out]; exact hfew))
            have hneg : v - T < 0 := by omega
            go_wp2_with fail
            go_ret2
            exact RetHt.no hno.out (hbW.trans (st2.bl.mono (by omega)))
          · have hneg : ¬ v - T < 0 := by omega
            have hH : highAt x I hs (q : Int) = v - T + P := by unfold highAt; rw [HIQ.out, HT.out, HPU.out, HV.out]
            have hgo := RN.out.go (p := (q : Int)) (by simp) (by rw [HIQ.out, HT.out, HV.out]; omega)
            rw [hH] at hgo
            replace hgo := hgo.more (os' := (q : Int) :: os') (fun s hs => mem_rot.1 hs) (fun s hs => mem_rot.2 hs)
            have HGO := Lib.hid hgo
            have hc2 : 2 * unmet hs + os'.length + 1 ≤ gk := by have := hgk; simp only [List.length_append, List.length_cons, List.length_nil] at this; omega
            have hc3 : unmet hs + os'.length ≤ n3 := by have := hcnt; simp only [List.length_append, List.length_cons, List.length_nil] at this; omega
            obtain ⟨H, hHd⟩ : ∃ H, H = v - T + P := ⟨_, rfl⟩
            have HHD := Lib.hid hHd
            have hH40 : H ≤ 43 := by omega
            have hH0 : 0 ≤ H := by omega
            clear hgo hH hgk hcnt kp hHd e1 e2 e3 e4 e5 e6
            go_wp2_with (go_at_call 98; ((with_reducible refine (implNextOf _ o' k' (q : Int) i1 (by omega)).mono ?_); rintro e w3 ⟨vN, rfl, rN, hb3⟩; obtain ⟨AN, mN, cN, rfl, hmN⟩ := rN.form; have hmN2 : mN ≤ 2 := (by rw [hmN]; exact nextF_len _ _); have HMN := Lib.hid hmN; clear hmN; have b3 : Below w2.heap.size w2 w3 := (by exact belA)))
            rw [← HHD.out]
            have st3 := st2.below b3
            have hz3 := b3.size
            have nx : NxSt gh (.slice (some ⟨go, 0, none⟩) (m - 1) ct) (.slice AN mN cN) (nextF (o', k') (q : Int)) w3 := ⟨rN.mono (Nat.zero_le _), fun g hg e => by (have h1 := (World.ownsRow.lt rN g hg).1; have h2 := st2.lt; first | omega | (simp at h1; omega)), fun g hg e => by (have h1 := (World.ownsRow.lt rN g hg).1; have h2 := (World.ownsRow.lt st2.ho g e).2; first | omega | (simp at h1; omega))⟩
            have hnA : nextAt I (q : Int) = nextF (o', k') (q : Int) := by unfold nextAt; rw [HIQ.out]
            have HNA := Lib.hid hnA
            have HIN := Lib.hid (fun s (h : s ∈ nextF (o', k') (q : Int)) => next_in HG.out hqI s (by rw [hnA]; exact h))
            clear rN hnA hb3 hb2 st2 hpop st kv kv2 f0 f1 f02 f12 cx cx2 c3' c32 rT rP
            go_loopw [7, 90] (fun t i wr => ∃ (tt : Value) (j : Nat) (hs os : List Int), j ≤ mN ∧ i = .int .i64 j ∧ tt = t ∧ HtSt W W.heap.size gh n3 cR tt hs os wr ∧ NxSt gh tt (.slice AN mN cN) (nextF (o', k') (q : Int)) wr ∧ GoSt x I rows (q : Int) H j hs ((q : Int) :: os) ∧ 2 * unmet hs + os.length + 1 ≤ gk ∧ unmet hs + os.length ≤ n3) (fun _ i _ => mN - (intOf i).toNat)
            case atStart => exact ⟨_, 0, hs, os', Nat.zero_le _, rfl, rfl, st3, nx, by rw [HHD.out]; exact HGO.out, hc2, hc3⟩
            case round =>
              clear st3 nx HGO hc2 hc3 RN HV
              obtain ⟨t, j, hs, os, hj, rfl, rfl, st, nx, go_, hc2, hc3⟩ := hrel
              have hge := st.ge
              have hlo := st.lt
              by_cases hlt : j < mN
              · have hjl : j < (nextF (o', k') (q : Int)).length := by have := HMN.out; omega
                obtain ⟨gn, hgn⟩ := nx.nr.blk (by omega)
                subst hgn
                have kn := nx.nr.at_ (k := j) hjl
                have hsb := HIN.out _ (List.getElem_mem hjl)
                have hjl2 : j < (nextAt I (q : Int)).length := by rw [HNA.out]; exact hjl
                have hse : (nextAt I (q : Int))[j] = (nextF (o', k') (q : Int))[j] := by simp only [HNA.out]
                obtain ⟨s, hs0⟩ : ∃ s, (nextF (o', k') (q : Int))[j] = s := ⟨_, rfl⟩
                rw [hs0] at kn hsb hse
                obtain ⟨sn, hsn⟩ := Int.eq_ofNat_of_zero_le hsb.1
                subst hsn
                have hsn3 : sn < n3 := by have := hsb.2; have := HL3.out; omega
                obtain ⟨u, ku, hu0⟩ := st.at_ hsn3
                have hfz := st.frz sn
                have HU := Lib.hid hu0
                have HSE := Lib.hid hse
                have GO := Lib.hid go_
                have hol : os.length ≤ 300 := by omega
                clear hse hs0 hu0 go_ hsb
                by_cases ht1 : 40 < H
                · have hno := Lib.hid (GO.out.tall hjl2 ht1)
                  go_wp2_with fail
                  go_ret2
                  exact RetHt.no hno.out (hbW.trans ((st.below (show Below wr.heap.size wr _ by exact belA)).bl.mono (by omega)))
                by_cases hu : 0 ≤ u
                · by_cases huH : u = H
                  · subst huH
                    have GO2 := Lib.hid (GO.out.old hjl2 HSE.out HU.out)
                    have hun : ¬ u < 0 := by omega
                    go_wp2_with fail
                    go_roundw
                    case rel => exact ⟨_, j + 1, hs, os, by omega, by go_num, rfl, st.below (by exact belA), nx.below (by exact belA), GO2.out, hc2, hc3⟩
                    case measure => simp [intOf]; omega
                  · have hno := Lib.hid (GO.out.apart hjl2 HSE.out (by rw [HU.out]; exact hu) (by rw [HU.out]; exact huH))
                    have hbe : (u == H) = false := by simpa using huH
                    have hbn : (u != H) = true := by simpa using huH
                    go_wp2_with fail
                    go_ret2
                    exact RetHt.no hno.out (hbW.trans ((st.below (show Below wr.heap.size wr _ by exact belA)).bl.mono (by omega)))
                · have hun : u < 0 := by omega
                  have G2 := GO.out.new hjl2 HSE.out (by rw [HU.out]; exact hun) (by omega) (by omega) (by show (sn : Int).toNat < I.length; have := HL3.out; omega)
                  have GO2 := Lib.hid G2.1
                  have hcn := G2.2
                  have st4 := (st.put sn H).below (Below.alloc (Below.refl _ _) (Nat.le_refl _) (.cells #[.int .i64 sn] 3))
                  have nx4 := (nx.put sn (.int .i64 H)).below (Below.alloc (Below.refl _ _) (Nat.le_refl _) (.cells #[.int .i64 sn] 3))
                  have HS4 := Lib.hid (show (wr.setCell ⟨gh, sn, none⟩ (.int .i64 H)).heap.size = wr.heap.size by simp [World.setCell])
                  have hcn2 : 2 * unmet (hs.set ((sn : Int).toNat) H) + (os ++ [(sn : Int)]).length + 1 ≤ gk := by simp only [List.length_append, List.length_cons, List.length_nil]; omega
                  have hcn3 : unmet (hs.set ((sn : Int).toNat) H) + (os ++ [(sn : Int)]).length ≤ n3 := by simp only [List.length_append, List.length_cons, List.length_nil]; omega
                  clear G2 hcn GO
                  go_wp2_with (at_builtin; refine wpList_append_own_at _ rfl _ _ 35 rfl W.heap.size 3 inf (.int .i64 0) 1 8 Tryz.underlying35 HIF.out HZ0.out HZ1.out HZ2.out rfl (by decide) t os.length (os.map (Value.int .i64)) rfl st4.ho ⟨wr.heap.size, 0, none⟩ 1 1 [.int .i64 sn] rfl rfl (cell_new1 _ _ _ HS4.out) (by simp [Value.oneCell']) (by unfold maxLen; omega) (by omega) st4.ge ?_)
                  intro t2 w4 hown hgr _ hat
                  have st5 := st4.app hown hgr hat (by simp [World.setCell])
                  have nx5 := nx4.app hgr hat (by simp [World.setCell])
                  clear hown hgr hat st4 st nx4 nx
                  go_wp2_with fail
                  go_roundw
                  case rel => exact ⟨_, j + 1, _, _, by omega, by go_num, rfl, st5, nx5, GO2.out, hcn2, hcn3⟩
                  case measure => simp [intOf]; omega
              · have rn := Lib.hid (show RunSt x I rows hs os from by
                  have e : j = (nextAt I (q : Int)).length := by rw [HNA.out]; have := HMN.out; omega
                  rw [e] at go_
                  exact go_.fin (fun s hs => by rcases List.mem_cons.1 hs with h | h; exact Or.inr h; exact Or.inl h) (fun s hs => List.mem_cons_of_mem _ hs))
                clear go_ nx
                go_wp2_with fail
                go_roundg (2 * unmet hs + os.length)
                case measure => omega
                case rel => exact ⟨_, hs, os, rfl, st, rn.out, Nat.le_refl _, hc3⟩
end Go.Proofs.YtgoinmdnpaknpaaGreat
