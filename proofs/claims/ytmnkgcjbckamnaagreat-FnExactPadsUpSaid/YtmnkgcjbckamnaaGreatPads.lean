/- The pads of the frames from above: the whole of both sides. -/
import Derived.Test.YtmnkgcjbckamnaaGreatRaise3
import Derived.Test.YtmnkgcjbckamnaaGreatMay2
import Derived.Test.YtmnkgcjbckamnaaGreatMkIntL
import Derived.Test.YtmnkgcjbckamnaaGreatKit1
import Derived.Test.YtmnkgcjbckamnaaGreatFlatR
import Derived.Test.YtmnkgcjbckamnaaGreatDrop2
import Derived.Deep.DeepCutAuto
import Derived.Deep.RegionHeld3
set_option linter.unusedVariables false
set_option linter.unusedSimpArgs false
set_option maxRecDepth 100000
namespace Go.Proofs.YtmnkgcjbckamnaaGreat
open Go.RowKit
attribute [local irreducible] wpList
def rowX (x : Image) (f : Frame) : Int := idxW (inRow f.2.2.1) (codeD x f.2.1).2.2.2.2
def padV (x : Image) (f : Frame) : Int := ((codeD x f.2.1).2.2.2.2.getD (rowX x f).toNat (0, 0, 0)).2.2
def padsL (x : Image) (fs : List Frame) (n q : Nat) : List IntL := ((List.range' q (n - q)).reverse).map fun (k : Nat) => ([(k : Int), padV x (fs.getD k noFr)] : IntL)
theorem padsL_end (x : Image) (fs : List Frame) (n : Nat) : padsL x fs n n = [] := by simp [padsL]
theorem padsL_step {x : Image} {fs : List Frame} {n q : Nat} (hq : q < n) : padsL x fs n q = padsL x fs n (q + 1) ++ [[(q : Int), padV x (fs.getD q noFr)]] := by
  unfold padsL
  rw [show n - q = (n - (q + 1)) + 1 by omega, List.range'_succ, List.reverse_cons, List.map_append]
  rfl
theorem padsL_len (x : Image) (fs : List Frame) (n q : Nat) : (padsL x fs n q).length = n - q := by simp [padsL]
theorem padsL_msz (x : Image) (fs : List Frame) (n q : Nat) : mszLIntL (padsL x fs n q) ≤ 3 * (n - q) := by
  unfold mszLIntL
  rw [padsL_len]
  have : ((padsL x fs n q).map mszIntL).sum = 2 * (n - q) := by
    unfold padsL
    rw [List.map_map, show (mszIntL ∘ fun (k : Nat) => ([(k : Int), padV x (fs.getD k noFr)] : IntL)) = fun _ => 2 from rfl, List.map_const', List.sum_replicate_nat]
    simp [Nat.mul_comm]
  omega
def padsB (x : Image) (fs : List Frame) : Bool := (List.range fs.length).all fun k => decide (0 ≤ rowX x (fs.getD k noFr))
noncomputable def puOk (x : Image) (fs : List Frame) (tr : List Int) (x2 x3 x4 x5 : Int) : Bool := gvB x fs tr x2 x3 x4 x5 && padsB x fs
noncomputable def puR (x : Image) (fs : List Frame) (tr : List Int) (x2 x3 x4 x5 : Int) : List IntL := if puOk x fs tr x2 x3 x4 x5 = true then padsL x fs fs.length 0 else []
theorem puR_no {x : Image} {fs : List Frame} {tr : List Int} {x2 x3 x4 x5 : Int} (h : puOk x fs tr x2 x3 x4 x5 = false) : puR x fs tr x2 x3 x4 x5 = [] := by unfold puR; rw [if_neg (by simp [h])]
theorem puR_yes {x : Image} {fs : List Frame} {tr : List Int} {x2 x3 x4 x5 : Int} (h : puOk x fs tr x2 x3 x4 x5 = true) : puR x fs tr x2 x3 x4 x5 = padsL x fs fs.length 0 := by unfold puR; rw [if_pos h]
theorem pads_no {x : Image} {fs : List Frame} {k : Nat} (hk : k < fs.length) (h : rowX x (fs.getD k noFr) < 0) : padsB x fs = false := by
  unfold padsB
  rw [List.all_eq_false]
  exact ⟨k, List.mem_range.2 hk, by simp only [decide_eq_true_eq]; omega⟩
theorem pads_yes {x : Image} {fs : List Frame} (h : ∀ k, k < fs.length → 0 ≤ rowX x (fs.getD k noFr)) : padsB x fs = true := by
  unfold padsB
  rw [List.all_eq_true]
  exact fun k hk => by simpa using h k (List.mem_range.1 hk)
theorem puR_msz (x : Image) (fs : List Frame) (tr : List Int) (x2 x3 x4 x5 : Int) : mszLIntL (puR x fs tr x2 x3 x4 x5) ≤ 3 * fs.length := by
  cases h : puOk x fs tr x2 x3 x4 x5
  · rw [puR_no h]; simp [mszLIntL]
  · rw [puR_yes h]; have := padsL_msz x fs fs.length 0; omega
theorem own_pair {w' : World} {g : Nat} {a b : Int} (hg : w'.heap[g]? = some (.cells #[.int .i64 a, .int .i64 b] 3)) (ia : I64 a) (ib : I64 b) : IntLR.own w' [g] [.slice (some ⟨g, 0, none⟩) 2 2] [a, b] := by
  refine ⟨_, _, _, rfl, ?_⟩
  have hr : w'.ownsRow 0 3 1 (.slice (some ⟨g, 0, none⟩) 2 2) ([a, b] : List Int).length (([a, b] : List Int).map (Value.int .i64)) :=
    ⟨rfl, .inr ⟨g, 2, _, rfl, Nat.zero_le _, hg, Nat.le_refl _, by unfold maxLen; omega, rfl, rfl⟩⟩
  exact own_ints hr (fun x hx => by simp at hx; rcases hx with rfl | rfl <;> assumption)
theorem Tryz.infoIntsP : (Tryz.prog.info? 26).map (fun i => (i.zero, i.size, i.bytes)) = some (some (.slice none 0 0), 1, 24) := by kernel_rfl
/-- One pair more. -/
theorem wp_pads {o : Oper} {a : Act} {K : Act → World → Prop} {Q : Exit → Act → World → Prop} (w5 : World) (s x : Operand)
    (ho : o.op = .call { callee := .builtin .append, args := #[s, x], argTypes := #[59, 59] }) (v : Value) (l : List IntL) (F : List Nat) (hs : a.eval s = v) (hown : OwnSl IntLR w5 26 F v l) (i p : Int) (hi : I64 i) (hp : I64 p)
    (hx : a.eval x = .slice (some ⟨w5.heap.size + 1, 0, none⟩) 1 1) (hl : l.length ≤ 1048576)
    (h : ∀ v' w' F', OwnSl IntLR w' 26 F' v' (l ++ [[i, p]]) → (∀ B W, Below B W w5 → B ≤ w5.heap.size → (∀ u, u ∈ F → B ≤ u) → Below B W w') → Fr F w5 w' → (∀ k, k ∈ F' → k ∈ F ∨ w5.heap.size ≤ k) → K (a.put o.dst v') w') :
    o.wp Tryz.prog a ((w5.alloc (.cells #[.int .i64 i, .int .i64 p] 3)).alloc (.cells #[.slice (some ⟨w5.heap.size, 0, none⟩) 2 2] 26)) K Q := by
  obtain ⟨inf, hif, hz0, hz1, hz2⟩ := info_parts Tryz.infoIntsP
  have hlF := hown.lt
  have hob := hown.ownB
  have hb : Below w5.heap.size w5 ((w5.alloc (.cells #[.int .i64 i, .int .i64 p] 3)).alloc (.cells #[.slice (some ⟨w5.heap.size, 0, none⟩) 2 2] 26)) := by (repeat (first | with_reducible exact Below.refl _ _ | with_reducible assumption | with_reducible refine below_alloc ?_ _ | ((with_reducible refine Below.setCell ?_ ?_ _); rotate_left; (· first | exact Nat.le_refl _ | (simp; done) | (simp; omega))) | with_reducible refine below_drewN ?_ _ | with_reducible refine Below.drew ?_ | with_reducible refine below_then ?_ (by with_reducible assumption)))
  refine wp_own1 _ s x _ ho IntLR 26 inf (.slice none 0 0) 1 24 Tryz.underlying59 hif hz0 hz1 hz2 rfl rfl (by decide) v l.length l F hs rfl (hown.below hb) ⟨w5.heap.size + 1, 0, none⟩ 1 [.slice (some ⟨w5.heap.size, 0, none⟩) 2 2] [i, p] [w5.heap.size] hx (cells_new _ [.slice (some ⟨w5.heap.size, 0, none⟩) 2 2] _ (by simp)) (own_pair ((alloc_lt (by simp)).trans (alloc_new' rfl)) hi hp) (by simp [Value.oneCell']) (fun u hu hu' => by simp at hu; subst hu; have := hlF _ hu'; omega) (by omega) (by decide) ?_
  intro v' w' F' h1 h2 h3
  refine h v' w' F' h1 (fun B W hB hz hF => below_grown0 (hB.trans (hb.mono hz)) h2 (by simp; omega) (fun g e => hF g (hob g e))) ((Fr.of_below hb).trans ((grown_fr h2).more (fun g hg => hob g (by simpa using hg)))) (fun k hk => ?_)
  rcases h3 k hk with h | h | h
  · exact Or.inl h
  · simp at h; exact Or.inr (by omega)
  · simp at h; exact Or.inr (by omega)
theorem wpl_pads {ops : Array Oper} {rest : List Oper} {o : Oper} {a : Act} {Q : Exit → Act → World → Prop} (w5 : World) (hgd : o.guard = none) (s x : Operand)
    (ho : o.op = .call { callee := .builtin .append, args := #[s, x], argTypes := #[59, 59] }) (v : Value) (l : List IntL) (F : List Nat) (hs : a.eval s = v) (hown : OwnSl IntLR w5 26 F v l) (i p : Int) (hi : I64 i) (hp : I64 p)
    (hx : a.eval x = .slice (some ⟨w5.heap.size + 1, 0, none⟩) 1 1) (hl : l.length ≤ 1048576)
    (h : ∀ v' w' F', OwnSl IntLR w' 26 F' v' (l ++ [[i, p]]) → (∀ B W, Below B W w5 → B ≤ w5.heap.size → (∀ u, u ∈ F → B ≤ u) → Below B W w') → Fr F w5 w' → (∀ k, k ∈ F' → k ∈ F ∨ w5.heap.size ≤ k) → wpList Tryz.prog ops Q rest (a.put o.dst v') w') :
    wpList Tryz.prog ops Q (o :: rest) a ((w5.alloc (.cells #[.int .i64 i, .int .i64 p] 3)).alloc (.cells #[.slice (some ⟨w5.heap.size, 0, none⟩) 2 2] 26)) :=
  wpList_plain hgd fun _ hK => wp_pads w5 s x ho v l F hs hown i p hi hp hx hl fun v' w' F' h2 h3 h4 h5 => hK _ _ (h v' w' F' h2 h3 h4 h5)
theorem step_pads {ops : Array Oper} {o : Oper} {a : Act} {K : Act → World → Prop} {Q : Exit → Act → World → Prop} {E : Prop} (w5 : World) (hgd : o.guard = none) (s x : Operand)
    (ho : o.op = .call { callee := .builtin .append, args := #[s, x], argTypes := #[59, 59] }) (v : Value) (l : List IntL) (F : List Nat) (hs : a.eval s = v) (hown : OwnSl IntLR w5 26 F v l) (i p : Int) (hi : I64 i) (hp : I64 p)
    (hx : a.eval x = .slice (some ⟨w5.heap.size + 1, 0, none⟩) 1 1) (hl : l.length ≤ 1048576)
    (h : ∀ v' w' F', OwnSl IntLR w' 26 F' v' (l ++ [[i, p]]) → (∀ B W, Below B W w5 → B ≤ w5.heap.size → (∀ u, u ∈ F → B ≤ u) → Below B W w') → Fr F w5 w' → (∀ k, k ∈ F' → k ∈ F ∨ w5.heap.size ≤ k) → K (a.put o.dst v') w') :
    if Region.wanted o (yielded ops a.tmps) = true then Oper.wp Tryz.prog o a ((w5.alloc (.cells #[.int .i64 i, .int .i64 p] 3)).alloc (.cells #[.slice (some ⟨w5.heap.size, 0, none⟩) 2 2] 26)) K Q else E := by
  have hw : Region.wanted o (yielded ops a.tmps) = true := by simp [Region.wanted, hgd]
  rw [if_pos hw]
  exact wp_pads w5 s x ho v l F hs hown i p hi hp hx hl h
set_option maxHeartbeats 16000000 in
theorem implPadsUpO (w : World) (A : Option Addr) (n c : Nat) (x : List Code) (A0b : Option Addr) (n0b c0b : Nat) (fs : List Frame) (A1b : Option Addr) (n1b c1b : Nat) (tr : List Int) (x2 x3 x4 x5 : Int) (A6b : Option Addr) (n6b c6b : Nat) (s6 : List Note)
    (h : Sl CodeR w 0 w.heap.size A n c x) (_ : mszLCode x ≤ 1048576) (h0 : Sl FrameR w 0 w.heap.size A0b n0b c0b fs) (h1 : Sl intR w 0 w.heap.size A1b n1b c1b tr) (_ : Sl noteR w 0 w.heap.size A6b n6b c6b s6) (hmf : mszLFrame fs ≤ 1048576) (_ : tr.length ≤ 1048576) (_ : s6.length ≤ 1048576) (_ : I64 x2) (_ : I64 x3) (i4 : I64 x4) (_ : I64 x5) :
    Calls Tryz.prog 27 #[.agg #[.slice A n c], .agg #[.slice A0b n0b c0b, .slice A1b n1b c1b, .int .i64 x2, .int .i64 x3, .int .i64 x4, .int .i64 x5, .slice A6b n6b c6b]] w (RetOwnB IntLR 26 (puR x fs tr x2 x3 x4 x5) (puOk x fs tr x2 x3 x4 x5) w) := by
  obtain ⟨g, G⟩ : ∃ g, gvB x fs tr x2 x3 x4 x5 = g := ⟨_, rfl⟩
  obtain ⟨r, R⟩ : ∃ r, puR x fs tr x2 x3 x4 x5 = r := ⟨_, rfl⟩
  obtain ⟨ok, OK⟩ : ∃ r, puOk x fs tr x2 x3 x4 x5 = r := ⟨_, rfl⟩
  have HL0 := Lib.hid h0.lenEq
  have HL := Lib.hid h.lenEq
  have hn0b := h0.lenLe
  have hnf : n0b ≤ 1048576 := by have := mszLFrame_len fs; have := HL0.out; omega
  have OK2 := Lib.hid (show (g && padsB x fs) = ok by rw [← OK, ← G]; rfl)
  have RN := Lib.hid (fun (e : ok = false) => show r = [] by rw [← R]; exact puR_no (OK.trans e))
  have RY := Lib.hid (fun (e : ok = true) => show r = padsL x fs n0b 0 by rw [← R, puR_yes (OK.trans e), HL0.out])
  have qw : IntKind.i64.wrap ((n0b : Int) - 1) = (n0b : Int) - 1 := IntWalk.i64_in _ (by omega)
  rw [OK, R]
  clear OK R
  replace G := Lib.hid G
  obtain ⟨inf, hif, hz0, hz1, hz2⟩ := info_parts Tryz.infoIntsP
  have HIF := Lib.hid hif
  have HZ0 := Lib.hid hz0
  have HZ1 := Lib.hid hz1
  have HZ2 := Lib.hid hz2
  clear hif hz0 hz1 hz2
  go_enter Tryz.func27, Tryz.ntmps27
  go_wp2_with fail
  refine (implGoodVm _ 0 w.heap.size A n c x A0b n0b c0b fs A1b n1b c1b tr x2 x3 x4 x5 A6b n6b c6b (h.below (show Below w.heap.size w _ by (repeat (first | with_reducible exact Below.refl _ _ | with_reducible assumption | with_reducible refine below_alloc ?_ _ | ((with_reducible refine Below.setCell ?_ ?_ _); rotate_left; (· first | exact Nat.le_refl _ | (simp; done) | (simp; omega))) | with_reducible refine below_drewN ?_ _ | with_reducible refine Below.drew ?_ | with_reducible refine below_then ?_ (by with_reducible assumption)))) (Nat.le_refl _)) (h0.below (show Below w.heap.size w _ by (repeat (first | with_reducible exact Below.refl _ _ | with_reducible assumption | with_reducible refine below_alloc ?_ _ | ((with_reducible refine Below.setCell ?_ ?_ _); rotate_left; (· first | exact Nat.le_refl _ | (simp; done) | (simp; omega))) | with_reducible refine below_drewN ?_ _ | with_reducible refine Below.drew ?_ | with_reducible refine below_then ?_ (by with_reducible assumption)))) (Nat.le_refl _)) (h1.below (show Below w.heap.size w _ by (repeat (first | with_reducible exact Below.refl _ _ | with_reducible assumption | with_reducible refine below_alloc ?_ _ | ((with_reducible refine Below.setCell ?_ ?_ _); rotate_left; (· first | exact Nat.le_refl _ | (simp; done) | (simp; omega))) | with_reducible refine below_drewN ?_ _ | with_reducible refine Below.drew ?_ | with_reducible refine below_then ?_ (by with_reducible assumption)))) (Nat.le_refl _)) (by first | omega | (simp; done) | (simp; omega)) i4).mono ?_
  rintro e w2 ⟨rfl, hb⟩
  rw [show (goodI x && vmB x fs tr x2 x3 x4 x5) = g from G.out]
  have hb2 : Below w.heap.size w w2 := below_then (show Below w.heap.size w _ by (repeat (first | with_reducible exact Below.refl _ _ | with_reducible assumption | with_reducible refine below_alloc ?_ _ | ((with_reducible refine Below.setCell ?_ ?_ _); rotate_left; (· first | exact Nat.le_refl _ | (simp; done) | (simp; omega))) | with_reducible refine below_drewN ?_ _ | with_reducible refine Below.drew ?_ | with_reducible refine below_then ?_ (by with_reducible assumption)))) (by (repeat (first | with_reducible exact Below.refl _ _ | with_reducible assumption | with_reducible refine below_alloc ?_ _ | ((with_reducible refine Below.setCell ?_ ?_ _); rotate_left; (· first | exact Nat.le_refl _ | (simp; done) | (simp; omega))) | with_reducible refine below_drewN ?_ _ | with_reducible refine Below.drew ?_ | with_reducible refine below_then ?_ (by with_reducible assumption))))
  have q0 := below_cell hb (show World.cell? _ ⟨w.heap.size, 0, none⟩ = some (.slice A n c) by simp [go_sem])
  have q1 := below_cell hb (show World.cell? _ ⟨w.heap.size + 1, 0, none⟩ = some (.slice A0b n0b c0b) by simp [go_sem])
  have hzb := hb.size
  simp at hzb
  have hz2 := hb2.size
  clear hb
  cases g
  · have ho : ok = false := by rw [← OK2.out]; rfl
    have hr := Lib.hid (RN.out ho)
    subst ho
    clear RY
    go_wp2_with fail
    go_ret2
    exact RetOwnB.nil_ hr.out rfl hb2
  · have hgg := G.out
    unfold gvB at hgg
    simp only [Bool.and_eq_true] at hgg
    have hgo := Lib.hid (goodI_iff.1 hgg.1)
    have hvm := hgg.2
    unfold vmB at hvm
    simp only [Bool.and_eq_true] at hvm
    have hmm := Lib.hid hvm.2
    clear hvm hgg
    have hX := Lib.hid (show ∀ V', Below w2.heap.size w2 V' → V'.cell? ⟨w.heap.size, 0, none⟩ = some (.slice A n c) ∧ V'.cell? ⟨w.heap.size + 1, 0, none⟩ = some (.slice A0b n0b c0b) from
      fun V' hV => ⟨below_cell hV q0, below_cell hV q1⟩)
    go_wp2_with fail
    clear q0 q1
    go_loopw [6, 7] (fun v_ i wr => ∃ (v : Value) (k : Nat) (F : List Nat), v = v_ ∧ k ≤ n0b ∧ i = .int .i64 ((k : Int) - 1) ∧ OwnSl IntLR wr 26 F v (padsL x fs n0b k) ∧ (∀ u, u ∈ F → w2.heap.size ≤ u) ∧ (∀ j, k ≤ j → j < n0b → 0 ≤ rowX x (fs.getD j noFr)) ∧ Below w2.heap.size w2 wr) (fun _ i _ => (intOf i + 1).toNat)
    case atStart => exact ⟨_, n0b, [], rfl, Nat.le_refl _, by go_num, by rw [padsL_end]; exact OwnSl.nil_ _ _ _, by simp, fun j h1 h2 => by omega, by (repeat (first | with_reducible exact Below.refl _ _ | with_reducible assumption | with_reducible refine below_alloc ?_ _ | ((with_reducible refine Below.setCell ?_ ?_ _); rotate_left; (· first | exact Nat.le_refl _ | (simp; done) | (simp; omega))) | with_reducible refine below_drewN ?_ _ | with_reducible refine Below.drew ?_ | with_reducible refine below_then ?_ (by with_reducible assumption)))⟩
    case round =>
      obtain ⟨v, k, F, rfl, hk, rfl, ho, hF, hP0, hb⟩ := hrel
      have hP := Lib.hid hP0
      clear hP0
      have hbw : Below w.heap.size w wr := below_then hb2 hb
      have hzr := hb.size
      obtain ⟨q0, q1⟩ := hX.out wr hb
      cases k with
      | zero =>
        have hok : ok = true := by
          rw [← OK2.out, pads_yes (fun j hj => hP.out j (Nat.zero_le _) (by have := HL0.out; omega))]; rfl
        have hr := Lib.hid (RY.out hok)
        subst hok
        clear RN hP
        obtain ⟨A9, n9, c9, hv9, h9⟩ := ho.form
        subst hv9
        clear h9
        go_wp2_with fail
        go_ret2
        exact RetOwnB.mk (by rw [hr.out]; exact ho) (fun u hu => by have := hF u hu; omega) rfl hbw
      | succ j =>
        have e0 : ((j + 1 : Nat) : Int) - 1 = (j : Int) := by omega
        rw [e0]
        clear e0
        have hjf : j < fs.length := by have := HL0.out; omega
        have hfr := vfB_fr hmm.out hjf
        obtain ⟨b, o, y0, y1, y2, A3, n3, c3, s3, A4, n4, c4, s4, A5, n5, c5, s5, y6, y7, y8, y9, y10, rfl, _, hbF, hl0, _, _, _, _, _, _, _, _, _, _, e0, e1, e2, e3, e4, e5, e6, e7, e8, e9, e10⟩ := Frame_at (h0.below hbw (Nat.le_refl _)) (show j < n0b by omega)
        rw [hl0] at hfr
        have hp := frB_parts hfr
        simp only at hp
        obtain ⟨⟨p1, p2⟩, _⟩ := hp
        obtain ⟨f, rfl⟩ := Int.eq_ofNat_of_zero_le p1
        have hfx : f < x.length := by omega
        have hfn : f < n := by have := HL.out; omega
        obtain ⟨bc, oc, z0, z1, D2, m2, d2, t2, D3, m3, d3, t3, D4, m4, d4, t4, rfl, _, hbb, hlc, _, _, kS2, kS3, kS4, v0, v1, v2, v3, v4⟩ := Code_at (h.below hbw (Nat.le_refl _)) hfn
        have hc0 := hgo.out.2.2 _ (List.getElem_mem hfx)
        obtain ⟨_, _, hrw, _⟩ := codeF_0 hc0
        rw [hlc] at hrw
        simp only at hrw
        have hgD : fs.getD j noFr = (y0, (f : Int), y2, s3, s4, s5, y6, y7, y8, y9, y10) := by simp [List.getD, hjf, hl0]
        have hcD : codeD x (f : Int) = (z0, z1, t2, t3, t4) := by rw [codeD_at hfx, hlc]
        obtain ⟨ri, RI⟩ : ∃ ri, idxW (inRow y2) t4 = ri := ⟨_, rfl⟩
        have HRX := Lib.hid (show rowX x (fs.getD j noFr) = ri by rw [hgD]; unfold rowX; simp only; rw [hcD]; exact RI)
        have HPV := Lib.hid (show padV x (fs.getD j noFr) = (t4.getD ri.toNat (0, 0, 0)).2.2 by unfold padV; rw [HRX.out, hgD]; simp only; rw [hcD])
        have hge := idxW_ge (inRow y2) t4
        rw [RI] at hge
        have hrto := Lib.hid (row_to hrw)
        have HIL := Lib.hid (fun (r : Nat) (e : ri = (r : Int)) => idxW_lt (p := inRow y2) (l := t4) (RI.trans e))
        replace RI := Lib.hid RI
        have L4 := Lib.hid kS4.lenEq
        have hjI : (j : Int) < (n0b : Int) := by omega
        have hfI : (f : Int) < (n : Int) := by omega
        have hbFw : b < wr.heap.size := by omega
        have hbbw : bc < wr.heap.size := by omega
        have hHw : w.heap.size < wr.heap.size := by omega
        have hHw1 : w.heap.size + 1 < wr.heap.size := by omega
        clear hfr hl0 hlc hc0 hrw hgD hcD p1 p2
        go_upto_region 9 with fail
        obtain ⟨W, hW⟩ : ∃ W, W = (wr.alloc (.cells #[.int .i64 y0, .int .i64 f, .int .i64 y2, .slice A3 n3 c3, .slice A4 n4 c4, .slice A5 n5 c5, .int .i64 y6, .int .i64 y7, .int .i64 y8, .int .i64 y9, .bool y10] 95)).alloc (.cells #[.int .i64 z0, .int .i64 z1, .slice D2 m2 d2, .slice D3 m3 d3, .slice D4 m4 d4] 30) := ⟨_, rfl⟩
        have hbW : Below wr.heap.size wr W := by rw [hW]; (repeat (first | with_reducible exact Below.refl _ _ | with_reducible assumption | with_reducible refine below_alloc ?_ _ | ((with_reducible refine Below.setCell ?_ ?_ _); rotate_left; (· first | exact Nat.le_refl _ | (simp; done) | (simp; omega))) | with_reducible refine below_drewN ?_ _ | with_reducible refine Below.drew ?_ | with_reducible refine below_then ?_ (by with_reducible assumption)))
        have hS := Lib.hid (show ∀ V', Below W.heap.size W V' → V'.cell? ⟨wr.heap.size + 1, 4, none⟩ = some (.slice D4 m4 d4) ∧ V'.cell? ⟨wr.heap.size, 2, none⟩ = some (.int .i64 y2) from fun V' hV => by
          refine ⟨below_cell hV ?_, below_cell hV ?_⟩ <;> (rw [hW]; simp [go_sem]))
        have hbwW := below_then hbw hbW
        have hb2W := below_then hb hbW
        have hoW := ho.below hbW
        have hFr := ho.lt
        have hzW := hbwW.size
        have kS4W := kS4.below (hbW.mono hbw.size) (Nat.le_refl _)
        have hz2W := hb2W.size
        rw [← hW]
        clear hW hbW ho hb hbw e0 e1 e2 e3 e4 e5 e6 e7 e8 e9 e10 v0 v1 v2 v3 v4 q0 q1
        obtain ⟨k4, k2⟩ := hS.out W (Below.refl _ _)
        go_wp2_with fail
        refine (implRowOf _ 0 w.heap.size D4 m4 d4 t4 y2 (kS4W.below (show Below w.heap.size W _ by (repeat (first | with_reducible exact Below.refl _ _ | with_reducible assumption | with_reducible refine below_alloc ?_ _ | ((with_reducible refine Below.setCell ?_ ?_ _); rotate_left; (· first | exact Nat.le_refl _ | omega | (simp; done) | (simp; omega))) | with_reducible refine below_drewN ?_ _ | with_reducible refine Below.drew ?_ | with_reducible refine below_then ?_ (by with_reducible assumption)))) (Nat.le_refl _)) (by first | omega | (simp; done) | (simp; omega))).mono ?_
        rintro e w5 ⟨rfl, hb5⟩
        rw [RI.out]
        have hbw5 := below_then hbwW hb5
        have hb25 := below_then hb2W hb5
        have ho5 := hoW.below hb5
        have hz5 := hb5.size
        obtain ⟨k4, k2⟩ := hS.out w5 hb5
        by_cases hri : ri < 0
        · have hdec : decide (ri < 0) = true := by simpa using hri
          have hok : ok = false := by rw [← OK2.out, pads_no hjf (by rw [HRX.out]; exact hri)]; rfl
          have hr := Lib.hid (RN.out hok)
          subst hok
          clear RY
          go_wp2_with fail
          go_ret2
          exact RetOwnB.nil_ hr.out rfl hbw5
        · have hdec : decide (ri < 0) = false := by simpa using hri
          obtain ⟨r, rfl⟩ := Int.eq_ofNat_of_zero_le (show 0 ≤ ri by omega)
          have hrt := HIL.out r rfl
          have hrm : r < m4 := by have := L4.out; omega
          have hrI : (r : Int) < (m4 : Int) := by omega
          obtain ⟨b4, o4, a0, a1, a2, rfl, _, hb4l, hl4, _, _, ia2, d0, d1, dd2⟩ := Row_at (kS4W.below (hb5.mono hzW) (Nat.le_refl _)) hrm
          have hpv : padV x (fs.getD j noFr) = a2 := by
            rw [HPV.out]
            show (t4.getD r (0, 0, 0)).2.2 = a2
            simp [List.getD, hrt, hl4]
          have HST := Lib.hid (show padsL x fs n0b j = padsL x fs n0b (j + 1) ++ [[(j : Int), a2]] by rw [padsL_step (by omega), hpv])
          have hlen := padsL_len x fs n0b (j + 1)
          have hPj := Lib.hid (show ∀ i, j ≤ i → i < n0b → 0 ≤ rowX x (fs.getD i noFr) from fun i h1 h2 => by
            rcases Nat.eq_or_lt_of_le h1 with rfl | h1
            · rw [HRX.out]; omega
            · exact hP.out i h1 h2)
          have hji : I64 (j : Int) := by unfold I64; omega
          have hl5 : (padsL x fs n0b (j + 1)).length ≤ 1048576 := by omega
          clear hlen
          clear hpv hl4 d0 d1 HPV
          go_wp2_with (at_builtin; refine wpl_pads w5 rfl _ _ rfl v (padsL x fs n0b (j + 1)) F rfl ho5 (j : Int) a2 hji ia2 rfl hl5 ?_)
          intro v' w' F' ho' hgr _ hF'
          rw [← HST.out] at ho'
          have hb' := hgr _ _ hb25 (by omega) hF
          have hF2 : ∀ u, u ∈ F' → w2.heap.size ≤ u := fun u hu => by
            rcases hF' u hu with h | h
            · exact hF u h
            · omega
          clear hgr hF' ho5
          go_wp2_with fail
          go_roundw
          case rel => exact ⟨_, j, F', rfl, by omega, by go_num, ho', hF2, hPj.out, hb'⟩
          case measure => first | (simp [intOf]; done) | (simp [intOf]; omega)
set_option maxHeartbeats 16000000 in
theorem specPadsUpO (w : World) (A : Option Addr) (n c : Nat) (x : List Code) (A0b : Option Addr) (n0b c0b : Nat) (fs : List Frame) (A1b : Option Addr) (n1b c1b : Nat) (tr : List Int) (x2 x3 x4 x5 : Int) (A6b : Option Addr) (n6b c6b : Nat) (s6 : List Note)
    (h : Sl CodeR w 0 w.heap.size A n c x) (_ : mszLCode x ≤ 1048576) (h0 : Sl FrameR w 0 w.heap.size A0b n0b c0b fs) (h1 : Sl intR w 0 w.heap.size A1b n1b c1b tr) (_ : Sl noteR w 0 w.heap.size A6b n6b c6b s6) (hmf : mszLFrame fs ≤ 1048576) (_ : tr.length ≤ 1048576) (_ : s6.length ≤ 1048576) (_ : I64 x2) (_ : I64 x3) (i4 : I64 x4) (_ : I64 x5) :
    Calls Tryz.prog 26 #[.agg #[.slice A n c], .agg #[.slice A0b n0b c0b, .slice A1b n1b c1b, .int .i64 x2, .int .i64 x3, .int .i64 x4, .int .i64 x5, .slice A6b n6b c6b]] w (RetOwnB IntLR 26 (puR x fs tr x2 x3 x4 x5) (puOk x fs tr x2 x3 x4 x5) w) := by
  obtain ⟨g, G⟩ : ∃ g, gvB x fs tr x2 x3 x4 x5 = g := ⟨_, rfl⟩
  obtain ⟨r, R⟩ : ∃ r, puR x fs tr x2 x3 x4 x5 = r := ⟨_, rfl⟩
  obtain ⟨ok, OK⟩ : ∃ r, puOk x fs tr x2 x3 x4 x5 = r := ⟨_, rfl⟩
  have HL0 := Lib.hid h0.lenEq
  have HL := Lib.hid h.lenEq
  have hn0b := h0.lenLe
  have hnf : n0b ≤ 1048576 := by have := mszLFrame_len fs; have := HL0.out; omega
  have OK2 := Lib.hid (show (g && padsB x fs) = ok by rw [← OK, ← G]; rfl)
  have RN := Lib.hid (fun (e : ok = false) => show r = [] by rw [← R]; exact puR_no (OK.trans e))
  have RY := Lib.hid (fun (e : ok = true) => show r = padsL x fs n0b 0 by rw [← R, puR_yes (OK.trans e), HL0.out])
  have qw : IntKind.i64.wrap ((n0b : Int) - 1) = (n0b : Int) - 1 := IntWalk.i64_in _ (by omega)
  rw [OK, R]
  clear OK R
  replace G := Lib.hid G
  obtain ⟨inf, hif, hz0, hz1, hz2⟩ := info_parts Tryz.infoIntsP
  have HIF := Lib.hid hif
  have HZ0 := Lib.hid hz0
  have HZ1 := Lib.hid hz1
  have HZ2 := Lib.hid hz2
  clear hif hz0 hz1 hz2
  go_enter Tryz.func26, Tryz.ntmps26
  go_wp2_with fail
  refine (specGoodVm _ 0 w.heap.size A n c x A0b n0b c0b fs A1b n1b c1b tr x2 x3 x4 x5 A6b n6b c6b (h.below (show Below w.heap.size w _ by (repeat (first | with_reducible exact Below.refl _ _ | with_reducible assumption | with_reducible refine below_alloc ?_ _ | ((with_reducible refine Below.setCell ?_ ?_ _); rotate_left; (· first | exact Nat.le_refl _ | (simp; done) | (simp; omega))) | with_reducible refine below_drewN ?_ _ | with_reducible refine Below.drew ?_ | with_reducible refine below_then ?_ (by with_reducible assumption)))) (Nat.le_refl _)) (h0.below (show Below w.heap.size w _ by (repeat (first | with_reducible exact Below.refl _ _ | with_reducible assumption | with_reducible refine below_alloc ?_ _ | ((with_reducible refine Below.setCell ?_ ?_ _); rotate_left; (· first | exact Nat.le_refl _ | (simp; done) | (simp; omega))) | with_reducible refine below_drewN ?_ _ | with_reducible refine Below.drew ?_ | with_reducible refine below_then ?_ (by with_reducible assumption)))) (Nat.le_refl _)) (h1.below (show Below w.heap.size w _ by (repeat (first | with_reducible exact Below.refl _ _ | with_reducible assumption | with_reducible refine below_alloc ?_ _ | ((with_reducible refine Below.setCell ?_ ?_ _); rotate_left; (· first | exact Nat.le_refl _ | (simp; done) | (simp; omega))) | with_reducible refine below_drewN ?_ _ | with_reducible refine Below.drew ?_ | with_reducible refine below_then ?_ (by with_reducible assumption)))) (Nat.le_refl _)) (by first | omega | (simp; done) | (simp; omega)) i4).mono ?_
  rintro e w2 ⟨rfl, hb⟩
  rw [show (goodI x && vmB x fs tr x2 x3 x4 x5) = g from G.out]
  have hb2 : Below w.heap.size w w2 := below_then (show Below w.heap.size w _ by (repeat (first | with_reducible exact Below.refl _ _ | with_reducible assumption | with_reducible refine below_alloc ?_ _ | ((with_reducible refine Below.setCell ?_ ?_ _); rotate_left; (· first | exact Nat.le_refl _ | (simp; done) | (simp; omega))) | with_reducible refine below_drewN ?_ _ | with_reducible refine Below.drew ?_ | with_reducible refine below_then ?_ (by with_reducible assumption)))) (by (repeat (first | with_reducible exact Below.refl _ _ | with_reducible assumption | with_reducible refine below_alloc ?_ _ | ((with_reducible refine Below.setCell ?_ ?_ _); rotate_left; (· first | exact Nat.le_refl _ | (simp; done) | (simp; omega))) | with_reducible refine below_drewN ?_ _ | with_reducible refine Below.drew ?_ | with_reducible refine below_then ?_ (by with_reducible assumption))))
  have q0 := below_cell hb (show World.cell? _ ⟨w.heap.size, 0, none⟩ = some (.slice A n c) by simp [go_sem])
  have q1 := below_cell hb (show World.cell? _ ⟨w.heap.size + 1, 0, none⟩ = some (.slice A0b n0b c0b) by simp [go_sem])
  have hzb := hb.size
  simp at hzb
  have hz2 := hb2.size
  clear hb
  cases g
  · have ho : ok = false := by rw [← OK2.out]; rfl
    have hr := Lib.hid (RN.out ho)
    subst ho
    clear RY
    go_wp2_with fail
    go_ret2
    exact RetOwnB.nil_ hr.out rfl hb2
  · have hgg := G.out
    unfold gvB at hgg
    simp only [Bool.and_eq_true] at hgg
    have hgo := Lib.hid (goodI_iff.1 hgg.1)
    have hvm := hgg.2
    unfold vmB at hvm
    simp only [Bool.and_eq_true] at hvm
    have hmm := Lib.hid hvm.2
    clear hvm hgg
    have hX := Lib.hid (show ∀ V', Below w2.heap.size w2 V' → V'.cell? ⟨w.heap.size, 0, none⟩ = some (.slice A n c) ∧ V'.cell? ⟨w.heap.size + 1, 0, none⟩ = some (.slice A0b n0b c0b) from
      fun V' hV => ⟨below_cell hV q0, below_cell hV q1⟩)
    go_wp2_with fail
    clear q0 q1
    go_loopw [6, 7] (fun v_ i wr => ∃ (v : Value) (k : Nat) (F : List Nat), v = v_ ∧ k ≤ n0b ∧ i = .int .i64 ((k : Int) - 1) ∧ OwnSl IntLR wr 26 F v (padsL x fs n0b k) ∧ (∀ u, u ∈ F → w2.heap.size ≤ u) ∧ (∀ j, k ≤ j → j < n0b → 0 ≤ rowX x (fs.getD j noFr)) ∧ Below w2.heap.size w2 wr) (fun _ i _ => (intOf i + 1).toNat)
    case atStart => exact ⟨_, n0b, [], rfl, Nat.le_refl _, by go_num, by rw [padsL_end]; exact OwnSl.nil_ _ _ _, by simp, fun j h1 h2 => by omega, by (repeat (first | with_reducible exact Below.refl _ _ | with_reducible assumption | with_reducible refine below_alloc ?_ _ | ((with_reducible refine Below.setCell ?_ ?_ _); rotate_left; (· first | exact Nat.le_refl _ | (simp; done) | (simp; omega))) | with_reducible refine below_drewN ?_ _ | with_reducible refine Below.drew ?_ | with_reducible refine below_then ?_ (by with_reducible assumption)))⟩
    case round =>
      obtain ⟨v, k, F, rfl, hk, rfl, ho, hF, hP0, hb⟩ := hrel
      have hP := Lib.hid hP0
      clear hP0
      have hbw : Below w.heap.size w wr := below_then hb2 hb
      have hzr := hb.size
      obtain ⟨q0, q1⟩ := hX.out wr hb
      cases k with
      | zero =>
        have hok : ok = true := by
          rw [← OK2.out, pads_yes (fun j hj => hP.out j (Nat.zero_le _) (by have := HL0.out; omega))]; rfl
        have hr := Lib.hid (RY.out hok)
        subst hok
        clear RN hP
        obtain ⟨A9, n9, c9, hv9, h9⟩ := ho.form
        subst hv9
        clear h9
        go_wp2_with fail
        go_ret2
        exact RetOwnB.mk (by rw [hr.out]; exact ho) (fun u hu => by have := hF u hu; omega) rfl hbw
      | succ j =>
        have e0 : ((j + 1 : Nat) : Int) - 1 = (j : Int) := by omega
        rw [e0]
        clear e0
        have hjf : j < fs.length := by have := HL0.out; omega
        have hfr := vfB_fr hmm.out hjf
        obtain ⟨b, o, y0, y1, y2, A3, n3, c3, s3, A4, n4, c4, s4, A5, n5, c5, s5, y6, y7, y8, y9, y10, rfl, _, hbF, hl0, _, _, _, _, _, _, _, _, _, _, e0, e1, e2, e3, e4, e5, e6, e7, e8, e9, e10⟩ := Frame_at (h0.below hbw (Nat.le_refl _)) (show j < n0b by omega)
        rw [hl0] at hfr
        have hp := frB_parts hfr
        simp only at hp
        obtain ⟨⟨p1, p2⟩, _⟩ := hp
        obtain ⟨f, rfl⟩ := Int.eq_ofNat_of_zero_le p1
        have hfx : f < x.length := by omega
        have hfn : f < n := by have := HL.out; omega
        obtain ⟨bc, oc, z0, z1, D2, m2, d2, t2, D3, m3, d3, t3, D4, m4, d4, t4, rfl, _, hbb, hlc, _, _, kS2, kS3, kS4, v0, v1, v2, v3, v4⟩ := Code_at (h.below hbw (Nat.le_refl _)) hfn
        have hc0 := hgo.out.2.2 _ (List.getElem_mem hfx)
        obtain ⟨_, _, hrw, _⟩ := codeF_0 hc0
        rw [hlc] at hrw
        simp only at hrw
        have hgD : fs.getD j noFr = (y0, (f : Int), y2, s3, s4, s5, y6, y7, y8, y9, y10) := by simp [List.getD, hjf, hl0]
        have hcD : codeD x (f : Int) = (z0, z1, t2, t3, t4) := by rw [codeD_at hfx, hlc]
        obtain ⟨ri, RI⟩ : ∃ ri, idxW (inRow y2) t4 = ri := ⟨_, rfl⟩
        have HRX := Lib.hid (show rowX x (fs.getD j noFr) = ri by rw [hgD]; unfold rowX; simp only; rw [hcD]; exact RI)
        have HPV := Lib.hid (show padV x (fs.getD j noFr) = (t4.getD ri.toNat (0, 0, 0)).2.2 by unfold padV; rw [HRX.out, hgD]; simp only; rw [hcD])
        have hge := idxW_ge (inRow y2) t4
        rw [RI] at hge
        have hrto := Lib.hid (row_to hrw)
        have HIL := Lib.hid (fun (r : Nat) (e : ri = (r : Int)) => idxW_lt (p := inRow y2) (l := t4) (RI.trans e))
        replace RI := Lib.hid RI
        have L4 := Lib.hid kS4.lenEq
        have hjI : (j : Int) < (n0b : Int) := by omega
        have hfI : (f : Int) < (n : Int) := by omega
        have hbFw : b < wr.heap.size := by omega
        have hbbw : bc < wr.heap.size := by omega
        have hHw : w.heap.size < wr.heap.size := by omega
        have hHw1 : w.heap.size + 1 < wr.heap.size := by omega
        clear hfr hl0 hlc hc0 hrw hgD hcD p1 p2
        go_upto_region 9 with fail
        obtain ⟨W, hW⟩ : ∃ W, W = (wr.alloc (.cells #[.int .i64 y0, .int .i64 f, .int .i64 y2, .slice A3 n3 c3, .slice A4 n4 c4, .slice A5 n5 c5, .int .i64 y6, .int .i64 y7, .int .i64 y8, .int .i64 y9, .bool y10] 95)).alloc (.cells #[.int .i64 z0, .int .i64 z1, .slice D2 m2 d2, .slice D3 m3 d3, .slice D4 m4 d4] 30) := ⟨_, rfl⟩
        have hbW : Below wr.heap.size wr W := by rw [hW]; (repeat (first | with_reducible exact Below.refl _ _ | with_reducible assumption | with_reducible refine below_alloc ?_ _ | ((with_reducible refine Below.setCell ?_ ?_ _); rotate_left; (· first | exact Nat.le_refl _ | (simp; done) | (simp; omega))) | with_reducible refine below_drewN ?_ _ | with_reducible refine Below.drew ?_ | with_reducible refine below_then ?_ (by with_reducible assumption)))
        have hS := Lib.hid (show ∀ V', Below W.heap.size W V' → V'.cell? ⟨wr.heap.size + 1, 4, none⟩ = some (.slice D4 m4 d4) ∧ V'.cell? ⟨wr.heap.size, 2, none⟩ = some (.int .i64 y2) from fun V' hV => by
          refine ⟨below_cell hV ?_, below_cell hV ?_⟩ <;> (rw [hW]; simp [go_sem]))
        have hbwW := below_then hbw hbW
        have hb2W := below_then hb hbW
        have hoW := ho.below hbW
        have hFr := ho.lt
        have hzW := hbwW.size
        have kS4W := kS4.below (hbW.mono hbw.size) (Nat.le_refl _)
        have hz2W := hb2W.size
        rw [← hW]
        clear hW hbW ho hb hbw e0 e1 e2 e3 e4 e5 e6 e7 e8 e9 e10 v0 v1 v2 v3 v4 q0 q1
        obtain ⟨k4, k2⟩ := hS.out W (Below.refl _ _)
        go_wp2_with fail
        refine (specL5RowAt _ 0 w.heap.size D4 m4 d4 t4 y2 (kS4W.below (show Below w.heap.size W _ by (repeat (first | with_reducible exact Below.refl _ _ | with_reducible assumption | with_reducible refine below_alloc ?_ _ | ((with_reducible refine Below.setCell ?_ ?_ _); rotate_left; (· first | exact Nat.le_refl _ | omega | (simp; done) | (simp; omega))) | with_reducible refine below_drewN ?_ _ | with_reducible refine Below.drew ?_ | with_reducible refine below_then ?_ (by with_reducible assumption)))) (Nat.le_refl _)) (by first | omega | (simp; done) | (simp; omega)) hrto.out).mono ?_
        rintro e w5 ⟨rfl, hb5⟩
        rw [RI.out]
        have hbw5 := below_then hbwW hb5
        have hb25 := below_then hb2W hb5
        have ho5 := hoW.below hb5
        have hz5 := hb5.size
        obtain ⟨k4, k2⟩ := hS.out w5 hb5
        by_cases hri : ri < 0
        · have hdec : decide (ri < 0) = true := by simpa using hri
          have hok : ok = false := by rw [← OK2.out, pads_no hjf (by rw [HRX.out]; exact hri)]; rfl
          have hr := Lib.hid (RN.out hok)
          subst hok
          clear RY
          go_wp2_with fail
          go_ret2
          exact RetOwnB.nil_ hr.out rfl hbw5
        · have hdec : decide (ri < 0) = false := by simpa using hri
          obtain ⟨r, rfl⟩ := Int.eq_ofNat_of_zero_le (show 0 ≤ ri by omega)
          have hrt := HIL.out r rfl
          have hrm : r < m4 := by have := L4.out; omega
          have hrI : (r : Int) < (m4 : Int) := by omega
          obtain ⟨b4, o4, a0, a1, a2, rfl, _, hb4l, hl4, _, _, ia2, d0, d1, dd2⟩ := Row_at (kS4W.below (hb5.mono hzW) (Nat.le_refl _)) hrm
          have hpv : padV x (fs.getD j noFr) = a2 := by
            rw [HPV.out]
            show (t4.getD r (0, 0, 0)).2.2 = a2
            simp [List.getD, hrt, hl4]
          have HST := Lib.hid (show padsL x fs n0b j = padsL x fs n0b (j + 1) ++ [[(j : Int), a2]] by rw [padsL_step (by omega), hpv])
          have hlen := padsL_len x fs n0b (j + 1)
          have hPj := Lib.hid (show ∀ i, j ≤ i → i < n0b → 0 ≤ rowX x (fs.getD i noFr) from fun i h1 h2 => by
            rcases Nat.eq_or_lt_of_le h1 with rfl | h1
            · rw [HRX.out]; omega
            · exact hP.out i h1 h2)
          have hji : I64 (j : Int) := by unfold I64; omega
          have hl5 : (padsL x fs n0b (j + 1)).length ≤ 1048576 := by omega
          clear hlen
          clear hpv hl4 d0 d1 HPV
          have hS5 := Lib.hid (show ∀ V', Fr F w5 V' → V'.cell? ⟨wr.heap.size + 1, 4, none⟩ = some (.slice (some ⟨b4, o4, none⟩) m4 d4) ∧ V'.cell? ⟨wr.heap.size, 2, none⟩ = some (.int .i64 y2) ∧ V'.cell? ⟨b4, o4 + r * 3 + 2, none⟩ = some (.int .i64 a2) from fun V' hV => ⟨cell_fr hV (fun hm => by have := hFr _ hm; omega) k4, cell_fr hV (fun hm => by have := hFr _ hm; omega) k2, cell_fr hV (fun hm => by have := hF _ hm; omega) dd2⟩)
          have kS45 := kS4W.below (hb5.mono hzW) (Nat.le_refl _)
          have hz0w : w.heap.size ≤ w5.heap.size := by omega
          have hF25 : Below w2.heap.size w2 w5 := hb25
          go_wp2_with fail
          go_region_held3 (fun V' => V'.cell? ⟨wr.heap.size + 1, 4, none⟩ = some (.slice (some ⟨b4, o4, none⟩) m4 d4) ∧ V'.cell? ⟨wr.heap.size, 2, none⟩ = some (.int .i64 y2) ∧ V'.cell? ⟨b4, o4 + r * 3 + 2, none⟩ = some (.int .i64 a2)) (exact hS5.out _ (show Fr F w5 _ by (repeat (first | with_reducible exact Fr.refl _ _ | with_reducible assumption | ((with_reducible refine Fr.setCell ?_ ?_ _); rotate_left; (· first | (simp; done) | assumption | (simp; assumption))) | with_reducible refine Fr.drewN ?_ _ | with_reducible refine Fr.drew ?_ | with_reducible refine Fr.alloc ?_ _ | with_reducible refine Fr.trans ?_ (Fr.of_below (by with_reducible assumption))))))
            (first | (go_at_call 71; ((with_reducible refine (specL5RowAt _ 0 w.heap.size (some ⟨b4, o4, none⟩) m4 d4 t4 y2 (kS45.below ((show Below w5.heap.size w5 _ by (repeat (first | with_reducible exact Below.refl _ _ | with_reducible assumption | with_reducible refine below_alloc ?_ _ | ((with_reducible refine Below.setCell ?_ ?_ _); rotate_left; (· first | exact Nat.le_refl _ | omega | (simp; done) | (simp; omega))) | with_reducible refine below_drewN ?_ _ | with_reducible refine Below.drew ?_ | with_reducible refine below_then ?_ (by with_reducible assumption)))).mono hz0w) (Nat.le_refl _)) (by first | omega | (simp; done) | (simp; omega)) hrto.out).mono ?_); rintro e w6 ⟨rfl, hb6⟩; rw [RI.out]; have bb : Below w5.heap.size w5 w6 := (by (repeat (first | with_reducible exact Below.refl _ _ | with_reducible assumption | with_reducible refine below_alloc ?_ _ | ((with_reducible refine Below.setCell ?_ ?_ _); rotate_left; (· first | exact Nat.le_refl _ | omega | (simp; done) | (simp; omega))) | with_reducible refine below_drewN ?_ _ | with_reducible refine Below.drew ?_ | with_reducible refine below_then ?_ (by with_reducible assumption)))); have z6 := bb.size; have ho6 := ho5.below bb)) | (refine step_pads w6 rfl _ _ rfl v (padsL x fs n0b (j + 1)) F rfl ho6 (j : Int) a2 hji ia2 rfl hl5 ?_; intro v' w7 F' ho' hgr fr6 hF'; have fr7 : Fr F w5 w7 := (Fr.of_below bb).trans fr6))
          all_goals
            rw [← HST.out] at ho'
            have hb26 := below_then hb25 bb
            have hb' := hgr _ _ hb26 (by omega) hF
            have hF2 : ∀ u, u ∈ F' → w2.heap.size ≤ u := fun u hu => by
              rcases hF' u hu with h | h
              · exact hF u h
              · omega
            clear hgr hF' ho5 ho6 fr6 fr7
            go_wp2_with fail
            go_roundw
            case rel => exact ⟨_, j, F', rfl, by omega, by go_num, ho', hF2, hPj.out, hb'⟩
            case measure => first | (simp [intOf]; done) | (simp [intOf]; omega)
theorem specPadsUpC (w : World) (A : Option Addr) (n c : Nat) (x : List Code) (A0b : Option Addr) (n0b c0b : Nat) (fs : List Frame) (A1b : Option Addr) (n1b c1b : Nat) (tr : List Int) (x2 x3 x4 x5 : Int) (A6b : Option Addr) (n6b c6b : Nat) (s6 : List Note)
    (h : Sl CodeR w 0 w.heap.size A n c x) (hq1 : mszLCode x ≤ 1048576) (h0 : Sl FrameR w 0 w.heap.size A0b n0b c0b fs) (h1 : Sl intR w 0 w.heap.size A1b n1b c1b tr) (hq2 : Sl noteR w 0 w.heap.size A6b n6b c6b s6) (hmf : mszLFrame fs ≤ 1048576) (hq3 : tr.length ≤ 1048576) (hq4 : s6.length ≤ 1048576) (hq5 : I64 x2) (hq6 : I64 x3) (i4 : I64 x4) (hq7 : I64 x5) :
    Calls Tryz.prog 26 #[.agg #[.slice A n c], .agg #[.slice A0b n0b c0b, .slice A1b n1b c1b, .int .i64 x2, .int .i64 x3, .int .i64 x4, .int .i64 x5, .slice A6b n6b c6b]] w (RetSlB IntLR (puR x fs tr x2 x3 x4 x5) (puOk x fs tr x2 x3 x4 x5) w) :=
  (specPadsUpO w A n c x A0b n0b c0b fs A1b n1b c1b tr x2 x3 x4 x5 A6b n6b c6b s6 h hq1 h0 h1 hq2 hmf hq3 hq4 hq5 hq6 i4 hq7).mono fun _ _ h => h.toSl
end Go.Proofs.YtmnkgcjbckamnaaGreat
