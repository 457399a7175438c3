/- The order of the statements: walks of both sides. -/
import Derived.Test.YtgagbbhnifkclaaOrdP
import Derived.Maps.AppendAt
import Derived.Deep.RegionHeld3
set_option linter.unusedVariables false
set_option linter.unusedSimpArgs false
set_option maxRecDepth 100000
namespace Go.Proofs.Ytgagbbhnifkclaa
open Go.RowKit

/-- The call has appended to a row of ints; but for that row's block all old memory is as it was. -/
def RetGr (E : TypeId) (v : Value) (xs : List Int) (w : World) (e : Ending) (w' : World) : Prop :=
  ∃ v', e = .returned v' ∧ w'.ownsRow 0 E 1 v' xs.length (xs.map (Value.int .i64)) ∧ Fr v.ownBlock.toList w w' ∧ (v'.ownBlock = v.ownBlock ∨ ∀ g, v'.ownBlock = some g → w.heap.size ≤ g)
theorem fr_grown {w w' : World} {r : Option Nat} (h : w.grownBy w' r) : Fr r.toList w w' :=
  ⟨h.os, h.tape, h.output, h.size, fun k hk hn => h.block k hk (fun e => hn (by rw [← e]; simp))⟩
theorem gr_trans {a b c : World} {v v1 : Value} (h : Fr v.ownBlock.toList a b) (ho : v1.ownBlock = v.ownBlock ∨ ∀ g, v1.ownBlock = some g → a.heap.size ≤ g) (k : Fr v1.ownBlock.toList b c) : Fr v.ownBlock.toList a c := by
  refine ⟨k.os.trans h.os, k.tape.trans h.tape, k.output.trans h.output, Nat.le_trans h.size k.size, fun i hi hn => ?_⟩
  rw [k.block i (Nat.lt_of_lt_of_le hi h.size) ?_, h.block i hi hn]
  intro hx
  rcases ho with ho | ho
  · rw [ho] at hx; exact hn hx
  · have := ho i (by simpa using hx); omega
theorem own_trans {a b : World} {v v1 v2 : Value} (hs : a.heap.size ≤ b.heap.size) (ho : v1.ownBlock = v.ownBlock ∨ ∀ g, v1.ownBlock = some g → a.heap.size ≤ g) (h2 : v2.ownBlock = v1.ownBlock ∨ ∀ g, v2.ownBlock = some g → b.heap.size ≤ g) : v2.ownBlock = v.ownBlock ∨ ∀ g, v2.ownBlock = some g → a.heap.size ≤ g := by
  rcases h2 with h2 | h2
  · rw [h2]; exact ho
  · exact Or.inr fun g hg => Nat.le_trans hs (h2 g hg)
theorem own_at {v v' : Value} {n : Nat} {w : World} (h : v'.ownBlock = v.ownBlock ∨ v'.ownBlock = some n) (hn : w.heap.size ≤ n) : v'.ownBlock = v.ownBlock ∨ ∀ g, v'.ownBlock = some g → w.heap.size ≤ g := by
  rcases h with h | h
  · exact Or.inl h
  · exact Or.inr fun g hg => by rw [h] at hg; injection hg with hg; omega

/-- The blocks of a statement, out of the cells that hold the statements. -/
theorem stmt_blocks {w : World} {lo hi : Nat} {A : Option Addr} {n c k : Nat} {l : List Stmt} (h : Sl StmtR w lo hi A n c l) (hk : k < n) :
    ∃ b off A3 n3 c3 A4 n4 c4, A = some ⟨b, off, none⟩ ∧ lo ≤ b ∧ b < hi ∧ Sl intR w lo hi A3 n3 c3 (thenOf l (k : Int)) ∧ Sl intR w lo hi A4 n4 c4 (elseOf l (k : Int)) ∧ w.cell? ⟨b, off + k * 5 + 3, none⟩ = some (.slice A3 n3 c3) ∧ w.cell? ⟨b, off + k * 5 + 4, none⟩ = some (.slice A4 n4 c4) := by
  have e1 := h.lenEq
  obtain ⟨b, o, x0, x1, A2, n2, c2, s2, A3, n3, c3, s3, A4, n4, c4, s4, rfl, h1, h2, hl0, _, _, _, h3, h4, d0, d1, d2, d3, d4⟩ := Stmt_at h hk
  refine ⟨b, o, A3, n3, c3, A4, n4, c4, rfl, h1, h2, ?_, ?_, d3, d4⟩
  · unfold thenOf; rw [show ((k : Int)).toNat = k from rfl, List.getElem?_eq_getElem (by omega), hl0]; exact h3
  · unfold elseOf; rw [show ((k : Int)).toNat = k from rfl, List.getElem?_eq_getElem (by omega), hl0]; exact h4

/-- A cell that stands as it stood in an elder world, behind two steps. -/
theorem cell_back {F : List Nat} {a b : World} {p o : Nat} {v v' : Value} (hf : Fr F a b) (hn : ¬ p ∈ F) (h : a.cell? ⟨p, o, none⟩ = some v) (h' : b.cell? ⟨p, o, none⟩ = some v') : v' = v := by
  have := cell_fr hf hn h
  rw [h'] at this; injection this
theorem own_fr0 {w w' : World} {base : Nat} {e : TypeId} {size n : Nat} {v : Value} {xs : List Value} (h : w.ownsRow base e size v n xs) (hf : Fr [] w w') : w'.ownsRow base e size v n xs :=
  ownsRow_keep0 h fun k hk => hf.block k (h.lt k hk).2 (by simp)
theorem own_later {v v' : Value} {a b : Nat} (hs : a ≤ b) (h : v'.ownBlock = v.ownBlock ∨ ∀ g, v'.ownBlock = some g → b ≤ g) : v'.ownBlock = v.ownBlock ∨ ∀ g, v'.ownBlock = some g → a ≤ g := by
  rcases h with h | h
  · exact Or.inl h
  · exact Or.inr fun g hg => Nat.le_trans hs (h g hg)
theorem hd_of {v u : Value} {lo hi blo bhi N : Nat} (HD : ∀ g, v.ownBlock = some g → (g < lo ∨ hi ≤ g) ∧ (g < blo ∨ bhi ≤ g)) (h : u.ownBlock = v.ownBlock ∨ ∀ g, u.ownBlock = some g → N ≤ g) (hN : hi ≤ N) : ∀ g, u.ownBlock = some g → (g < lo ∨ hi ≤ g) ∧ (g < lo ∨ hi ≤ g) := by
  intro g hg
  rcases h with h | h
  · rw [h] at hg; exact ⟨(HD g hg).1, (HD g hg).1⟩
  · have := h g hg; omega
theorem own_drew {w : World} {base : Nat} {e : TypeId} {size n : Nat} {v : Value} {xs : List Value} (h : w.ownsRow base e size v n xs) : w.drew.ownsRow base e size v n xs := h
theorem fr_undrew {F : List Nat} {a b : World} (h : Fr F a.drew b) : Fr F a b := ⟨h.os, h.tape, h.output, h.size, h.block⟩
set_option maxHeartbeats 4000000 in
theorem implOrderOf (fuel : Nat) : ∀ (w : World) (lo hi blo bhi : Nat) (x0 x1 : Int) (v2 : Value) (A : Option Addr) (n c : Nat) (ss : List Stmt) (Ab : Option Addr) (nb cb : Nat) (bl : List Int) (v : Value) (xs : List Int) (lb : Nat)
    (h : Sl StmtR w lo hi A n c ss) (hb : Sl intR w blo bhi Ab nb cb bl) (hh : hi ≤ w.heap.size) (hh' : bhi ≤ w.heap.size) (ho : w.ownsRow 0 3 1 v xs.length (xs.map (Value.int .i64)))
    (hd : ∀ g, v.ownBlock = some g → (g < lo ∨ hi ≤ g) ∧ (g < blo ∨ bhi ≤ g)) (ha : okAll ss) (hok : okB ss lb bl) (hf : ss.length ≤ lb + fuel) (hlen : xs.length + (ordF ss (fuel + 1) bl).length ≤ 1099511627776),
    Calls Try.prog 216 #[.agg #[.int .i64 x0, .int .i64 x1, v2, .slice A n c], .slice Ab nb cb, v] w (RetGr 3 v (xs ++ ordF ss (fuel + 1) bl) w) := by
  induction fuel using Nat.strongRecOn with
  | ind fuel ih =>
    intro w lo hi blo bhi x0 x1 v2 A n c ss Ab nb cb bl v xs lb h hb hh hh' ho hd ha hok hf hlen
    have IH := Lib.hid ih
    clear ih
    have e1 := Lib.hid h.lenEq
    have e2 := hb.lenEq
    have b2 := hb.lenLe
    have HD := Lib.hid hd
    have HA := Lib.hid ha
    have HO := Lib.hid hok
    have hB0 : ¬ w.heap.size ∈ v.ownBlock.toList := by
      intro hx
      have := (ho.lt w.heap.size (by simpa using hx)).2
      omega
    clear hd ha hok
    obtain ⟨inf, hif, hz0, hz1, hz2⟩ := info_parts Try.infoInt
    go_enter Try.func216, Try.ntmps216
    go_wp2_with fail
    go_loopw [2, 11] (fun v' i wr => ∃ k : Nat, k ≤ nb ∧ i = .int .i64 k ∧ wr.ownsRow 0 3 1 v' (xs ++ ordF ss (fuel + 1) (bl.take k)).length ((xs ++ ordF ss (fuel + 1) (bl.take k)).map (Value.int .i64)) ∧ Fr v.ownBlock.toList (w.alloc (.cells #[.int .i64 x0, .int .i64 x1, v2, .slice A n c] 139)) wr ∧ (v'.ownBlock = v.ownBlock ∨ ∀ g, v'.ownBlock = some g → (w.alloc (.cells #[.int .i64 x0, .int .i64 x1, v2, .slice A n c] 139)).heap.size ≤ g)) (fun _ i _ => nb - (intOf i).toNat)
    case atStart => exact ⟨0, Nat.zero_le _, rfl, by simpa [ordF_nil] using ho.alloc _, Fr.refl _ _, Or.inl rfl⟩
    case round =>
      rename_i v1 _
      obtain ⟨k, hk, rfl, ho1, hfr, hrl⟩ := hrel
      by_cases hlt : k < nb
      · have hfw : Fr v.ownBlock.toList w wr := Fr.trans (Fr.alloc (Fr.refl _ w) _) hfr
        have hbw := hb.fr hfw hh' (fun g hg => (HD.out g (by simpa using hg)).2)
        obtain ⟨b, o, rfl, _, _, hc1, _⟩ := hbw.int_at hlt
        have hx := HO.out (bl[k]'(by omega)) (List.getElem_mem _)
        have hs0 := ordF_succ ss fuel bl k (by omega)
        have hle := ordF_take_le ss (fuel + 1) (k + 1) bl
        generalize bl[k]'(by omega) = x at hc1 hx hs0
        obtain ⟨x1', x2'⟩ := hx
        obtain ⟨j, rfl⟩ := Int.eq_ofNat_of_zero_le (show 0 ≤ x by omega)
        obtain ⟨f, rfl⟩ : ∃ f, fuel = f + 1 := ⟨fuel - 1, by omega⟩
        have hj : j < n := by have := e1.out; omega
        have hle2 := hle
        rw [hs0] at hle2
        simp only [List.length_append, List.length_cons, List.length_nil] at hle2
        have hs := Lib.hid hs0
        clear hs0 hle
        have hle := hle2
        clear hle2
        obtain ⟨bb, oo, A3, n3, c3, A4, n4, c4, rfl, hb1, hb2, hT, hE, d3, d4⟩ := stmt_blocks h hj
        have hbn : ¬ bb ∈ v.ownBlock.toList := fun hx => by have := (HD.out bb (by simpa using hx)).1; omega
        have a12 := HA.out j (by omega)
        have hK3 := Lib.hid a12.1
        have hK4 := Lib.hid a12.2
        clear a12
        obtain ⟨ys, hys0⟩ : ∃ ys, ys = xs ++ ordF ss (f + 1 + 1) (bl.take k) := ⟨_, rfl⟩
        rw [← hys0] at ho1
        have hyl : ys.length = xs.length + (ordF ss (f + 1 + 1) (bl.take k)).length := by rw [hys0]; simp
        have hyl2 : ys.length + (1 + ((ordF ss (f + 1) (thenOf ss j)).length + (ordF ss (f + 1) (elseOf ss j)).length)) ≤ 1099511627776 := by omega
        have hys := Lib.hid hys0
        clear hys0 hyl hle hlen
        go_wp2_with (at_builtin; refine wpList_append_own_at _ rfl _ _ 33 rfl 0 3 inf (.int .i64 0) 1 8 Try.underlying33 hif hz0 hz1 hz2 rfl (by decide) _ _ _ rfl (ho1.alloc _) ⟨wr.heap.size, 0, none⟩ 1 1 [.int .i64 j] rfl rfl (cell_new1 _ _ _ (by simp)) (by simp [Value.oneCell']) (by unfold maxLen; omega) (by omega) (by omega) ?_)
        intro v2' w2 hown hgr _ hat
        have ho2 : w2.ownsRow 0 3 1 v2' (ys ++ [(j : Int)]).length ((ys ++ [(j : Int)]).map (Value.int .i64)) := by simpa using hown
        have hfr2 := gr_trans hfr hrl (Fr.trans (Fr.alloc (Fr.refl _ wr) _) (fr_grown hgr))
        have hrl2 := own_trans hfr.size hrl (own_at hat (by simp))
        clear hown hgr hat ho1
        have hfw2 : Fr v.ownBlock.toList w w2 := Fr.trans (Fr.alloc (Fr.refl _ w) _) hfr2
        have p20 : w2.cell? ⟨w.heap.size, 0, none⟩ = some (.int .i64 x0) := cell_fr hfr2 hB0 (by simp [go_sem])
        have p21 : w2.cell? ⟨w.heap.size, 1, none⟩ = some (.int .i64 x1) := cell_fr hfr2 hB0 (by simp [go_sem])
        have p22 : w2.cell? ⟨w.heap.size, 2, none⟩ = some (v2) := cell_fr hfr2 hB0 (by simp [go_sem])
        have p23 : w2.cell? ⟨w.heap.size, 3, none⟩ = some (.slice (some ⟨bb, oo, none⟩) n c) := cell_fr hfr2 hB0 (by simp [go_sem])
        have p24 : w2.cell? ⟨bb, oo + j * 5 + 3, none⟩ = some (.slice A3 n3 c3) := cell_fr hfw2 hbn d3
        have p25 : w2.cell? ⟨bb, oo + j * 5 + 4, none⟩ = some (.slice A4 n4 c4) := cell_fr hfw2 hbn d4
        have hD2 := Lib.hid (hd_of (hi := hi) HD.out hrl2 (by simp; omega))
        have hS2 := h.fr hfw2 hh (fun g hg => (HD.out g (by simpa using hg)).1)
        have hT2 := hT.fr hfw2 hh (fun g hg => (HD.out g (by simpa using hg)).1)
        have hy2 : hi ≤ w2.heap.size := Nat.le_trans hh hfw2.size
        go_wp2_with fail
        go_region_held3 (fun W => W.cell? ⟨w.heap.size, 0, none⟩ = some (.int .i64 x0) ∧ W.cell? ⟨w.heap.size, 1, none⟩ = some (.int .i64 x1) ∧ W.cell? ⟨w.heap.size, 2, none⟩ = some (v2) ∧ W.cell? ⟨w.heap.size, 3, none⟩ = some (.slice (some ⟨bb, oo, none⟩) n c) ∧ W.cell? ⟨bb, oo + j * 5 + 3, none⟩ = some (.slice A3 n3 c3))
                  (first | exact ⟨p20, p21, p22, p23, p24⟩ | exact ⟨p30, p31, p32, p33, p34⟩)
                  ((go_at_call 216; ((with_reducible refine (IH.out f (by omega) _ lo hi lo hi x0 x1 v2 _ n c ss A3 n3 c3 _ v2' (ys ++ [(j : Int)]) (j + 1) (hS2.fr (show Fr [] w2 _ by (repeat (first | with_reducible exact Fr.refl _ _ | with_reducible assumption | ((with_reducible refine Fr.setCell ?_ ?_ _); rotate_left; (· first | (simp; done) | assumption | (simp; assumption))) | with_reducible refine Fr.drewN ?_ _ | with_reducible refine Fr.drew ?_ | with_reducible refine Fr.alloc ?_ _ | with_reducible refine Fr.trans ?_ (Fr.of_below (by with_reducible assumption))))) hy2 (by simp)) (hT2.fr (show Fr [] w2 _ by (repeat (first | with_reducible exact Fr.refl _ _ | with_reducible assumption | ((with_reducible refine Fr.setCell ?_ ?_ _); rotate_left; (· first | (simp; done) | assumption | (simp; assumption))) | with_reducible refine Fr.drewN ?_ _ | with_reducible refine Fr.drew ?_ | with_reducible refine Fr.alloc ?_ _ | with_reducible refine Fr.trans ?_ (Fr.of_below (by with_reducible assumption))))) hy2 (by simp)) (Nat.le_trans hy2 (show Fr [] w2 _ by (repeat (first | with_reducible exact Fr.refl _ _ | with_reducible assumption | ((with_reducible refine Fr.setCell ?_ ?_ _); rotate_left; (· first | (simp; done) | assumption | (simp; assumption))) | with_reducible refine Fr.drewN ?_ _ | with_reducible refine Fr.drew ?_ | with_reducible refine Fr.alloc ?_ _ | with_reducible refine Fr.trans ?_ (Fr.of_below (by with_reducible assumption))))).size) (Nat.le_trans hy2 (show Fr [] w2 _ by (repeat (first | with_reducible exact Fr.refl _ _ | with_reducible assumption | ((with_reducible refine Fr.setCell ?_ ?_ _); rotate_left; (· first | (simp; done) | assumption | (simp; assumption))) | with_reducible refine Fr.drewN ?_ _ | with_reducible refine Fr.drew ?_ | with_reducible refine Fr.alloc ?_ _ | with_reducible refine Fr.trans ?_ (Fr.of_below (by with_reducible assumption))))).size) (own_fr0 ho2 (show Fr [] w2 _ by (repeat (first | with_reducible exact Fr.refl _ _ | with_reducible assumption | ((with_reducible refine Fr.setCell ?_ ?_ _); rotate_left; (· first | (simp; done) | assumption | (simp; assumption))) | with_reducible refine Fr.drewN ?_ _ | with_reducible refine Fr.drew ?_ | with_reducible refine Fr.alloc ?_ _ | with_reducible refine Fr.trans ?_ (Fr.of_below (by with_reducible assumption)))))) hD2.out HA.out hK3.out (by omega) (by simp only [List.length_append, List.length_cons, List.length_nil]; omega)).mono ?_); rintro e w3 ⟨v3', rfl, ho3, hx3, hz3⟩; have hfr3 := gr_trans hfr2 hrl2 (Fr.trans ((show Fr [] w2 _ by (repeat (first | with_reducible exact Fr.refl _ _ | with_reducible assumption | ((with_reducible refine Fr.setCell ?_ ?_ _); rotate_left; (· first | (simp; done) | assumption | (simp; assumption))) | with_reducible refine Fr.drewN ?_ _ | with_reducible refine Fr.drew ?_ | with_reducible refine Fr.alloc ?_ _ | with_reducible refine Fr.trans ?_ (Fr.of_below (by with_reducible assumption))))).more (by simp)) hx3); have hrl3 := own_trans hfr2.size hrl2 (own_later (show Fr [] w2 _ by (repeat (first | with_reducible exact Fr.refl _ _ | with_reducible assumption | ((with_reducible refine Fr.setCell ?_ ?_ _); rotate_left; (· first | (simp; done) | assumption | (simp; assumption))) | with_reducible refine Fr.drewN ?_ _ | with_reducible refine Fr.drew ?_ | with_reducible refine Fr.alloc ?_ _ | with_reducible refine Fr.trans ?_ (Fr.of_below (by with_reducible assumption))))).size hz3); have hfw3 : Fr v.ownBlock.toList w w3 := Fr.trans (Fr.alloc (Fr.refl _ w) _) hfr3; have p30 : w3.cell? ⟨w.heap.size, 0, none⟩ = some (.int .i64 x0) := cell_fr hfr3 hB0 (by simp [go_sem]); have p31 : w3.cell? ⟨w.heap.size, 1, none⟩ = some (.int .i64 x1) := cell_fr hfr3 hB0 (by simp [go_sem]); have p32 : w3.cell? ⟨w.heap.size, 2, none⟩ = some (v2) := cell_fr hfr3 hB0 (by simp [go_sem]); have p33 : w3.cell? ⟨w.heap.size, 3, none⟩ = some (.slice (some ⟨bb, oo, none⟩) n c) := cell_fr hfr3 hB0 (by simp [go_sem]); have p34 : w3.cell? ⟨bb, oo + j * 5 + 3, none⟩ = some (.slice A3 n3 c3) := cell_fr hfw3 hbn d3; have p35 : w3.cell? ⟨bb, oo + j * 5 + 4, none⟩ = some (.slice A4 n4 c4) := cell_fr hfw3 hbn d4)))
        clear hS2 hT2 p20 p21 p22 p23 p24 p25
        have hD3 := Lib.hid (hd_of (hi := hi) HD.out hrl3 (by simp; omega))
        have hS3 := h.fr hfw3 hh (fun g hg => (HD.out g (by simpa using hg)).1)
        have hT3 := hE.fr hfw3 hh (fun g hg => (HD.out g (by simpa using hg)).1)
        have hy3 : hi ≤ w3.heap.size := Nat.le_trans hh hfw3.size
        go_wp2_with fail
        go_region_held3 (fun W => W.cell? ⟨w.heap.size, 0, none⟩ = some (.int .i64 x0) ∧ W.cell? ⟨w.heap.size, 1, none⟩ = some (.int .i64 x1) ∧ W.cell? ⟨w.heap.size, 2, none⟩ = some (v2) ∧ W.cell? ⟨w.heap.size, 3, none⟩ = some (.slice (some ⟨bb, oo, none⟩) n c) ∧ W.cell? ⟨bb, oo + j * 5 + 4, none⟩ = some (.slice A4 n4 c4))
                  (first | exact ⟨p30, p31, p32, p33, p35⟩ | exact ⟨p40, p41, p42, p43, p45⟩)
                  ((go_at_call 216; ((with_reducible refine (IH.out f (by omega) _ lo hi lo hi x0 x1 v2 _ n c ss A4 n4 c4 _ v3' ((ys ++ [(j : Int)]) ++ ordF ss (f + 1) (thenOf ss j)) (j + 1) (hS3.fr (show Fr [] w3 _ by (repeat (first | with_reducible exact Fr.refl _ _ | with_reducible assumption | ((with_reducible refine Fr.setCell ?_ ?_ _); rotate_left; (· first | (simp; done) | assumption | (simp; assumption))) | with_reducible refine Fr.drewN ?_ _ | with_reducible refine Fr.drew ?_ | with_reducible refine Fr.alloc ?_ _ | with_reducible refine Fr.trans ?_ (Fr.of_below (by with_reducible assumption))))) hy3 (by simp)) (hT3.fr (show Fr [] w3 _ by (repeat (first | with_reducible exact Fr.refl _ _ | with_reducible assumption | ((with_reducible refine Fr.setCell ?_ ?_ _); rotate_left; (· first | (simp; done) | assumption | (simp; assumption))) | with_reducible refine Fr.drewN ?_ _ | with_reducible refine Fr.drew ?_ | with_reducible refine Fr.alloc ?_ _ | with_reducible refine Fr.trans ?_ (Fr.of_below (by with_reducible assumption))))) hy3 (by simp)) (Nat.le_trans hy3 (show Fr [] w3 _ by (repeat (first | with_reducible exact Fr.refl _ _ | with_reducible assumption | ((with_reducible refine Fr.setCell ?_ ?_ _); rotate_left; (· first | (simp; done) | assumption | (simp; assumption))) | with_reducible refine Fr.drewN ?_ _ | with_reducible refine Fr.drew ?_ | with_reducible refine Fr.alloc ?_ _ | with_reducible refine Fr.trans ?_ (Fr.of_below (by with_reducible assumption))))).size) (Nat.le_trans hy3 (show Fr [] w3 _ by (repeat (first | with_reducible exact Fr.refl _ _ | with_reducible assumption | ((with_reducible refine Fr.setCell ?_ ?_ _); rotate_left; (· first | (simp; done) | assumption | (simp; assumption))) | with_reducible refine Fr.drewN ?_ _ | with_reducible refine Fr.drew ?_ | with_reducible refine Fr.alloc ?_ _ | with_reducible refine Fr.trans ?_ (Fr.of_below (by with_reducible assumption))))).size) (own_fr0 ho3 (show Fr [] w3 _ by (repeat (first | with_reducible exact Fr.refl _ _ | with_reducible assumption | ((with_reducible refine Fr.setCell ?_ ?_ _); rotate_left; (· first | (simp; done) | assumption | (simp; assumption))) | with_reducible refine Fr.drewN ?_ _ | with_reducible refine Fr.drew ?_ | with_reducible refine Fr.alloc ?_ _ | with_reducible refine Fr.trans ?_ (Fr.of_below (by with_reducible assumption)))))) hD3.out HA.out hK4.out (by omega) (by simp only [List.length_append, List.length_cons, List.length_nil]; omega)).mono ?_); rintro e w4 ⟨v4', rfl, ho4, hx4, hz4⟩; have hfr4 := gr_trans hfr3 hrl3 (Fr.trans ((show Fr [] w3 _ by (repeat (first | with_reducible exact Fr.refl _ _ | with_reducible assumption | ((with_reducible refine Fr.setCell ?_ ?_ _); rotate_left; (· first | (simp; done) | assumption | (simp; assumption))) | with_reducible refine Fr.drewN ?_ _ | with_reducible refine Fr.drew ?_ | with_reducible refine Fr.alloc ?_ _ | with_reducible refine Fr.trans ?_ (Fr.of_below (by with_reducible assumption))))).more (by simp)) hx4); have hrl4 := own_trans hfr3.size hrl3 (own_later (show Fr [] w3 _ by (repeat (first | with_reducible exact Fr.refl _ _ | with_reducible assumption | ((with_reducible refine Fr.setCell ?_ ?_ _); rotate_left; (· first | (simp; done) | assumption | (simp; assumption))) | with_reducible refine Fr.drewN ?_ _ | with_reducible refine Fr.drew ?_ | with_reducible refine Fr.alloc ?_ _ | with_reducible refine Fr.trans ?_ (Fr.of_below (by with_reducible assumption))))).size hz4); have hfw4 : Fr v.ownBlock.toList w w4 := Fr.trans (Fr.alloc (Fr.refl _ w) _) hfr4; have p40 : w4.cell? ⟨w.heap.size, 0, none⟩ = some (.int .i64 x0) := cell_fr hfr4 hB0 (by simp [go_sem]); have p41 : w4.cell? ⟨w.heap.size, 1, none⟩ = some (.int .i64 x1) := cell_fr hfr4 hB0 (by simp [go_sem]); have p42 : w4.cell? ⟨w.heap.size, 2, none⟩ = some (v2) := cell_fr hfr4 hB0 (by simp [go_sem]); have p43 : w4.cell? ⟨w.heap.size, 3, none⟩ = some (.slice (some ⟨bb, oo, none⟩) n c) := cell_fr hfr4 hB0 (by simp [go_sem]); have p44 : w4.cell? ⟨bb, oo + j * 5 + 3, none⟩ = some (.slice A3 n3 c3) := cell_fr hfw4 hbn d3; have p45 : w4.cell? ⟨bb, oo + j * 5 + 4, none⟩ = some (.slice A4 n4 c4) := cell_fr hfw4 hbn d4)))
        have hfin : w4.ownsRow 0 3 1 v4' (xs ++ ordF ss (f + 1 + 1) (bl.take (k + 1))).length ((xs ++ ordF ss (f + 1 + 1) (bl.take (k + 1))).map (Value.int .i64)) := by
          have e : xs ++ ordF ss (f + 1 + 1) (bl.take (k + 1)) = ((ys ++ [(j : Int)]) ++ ordF ss (f + 1) (thenOf ss j)) ++ ordF ss (f + 1) (elseOf ss j) := by rw [hs.out, hys.out]; simp
          rw [e]; exact ho4
        go_wp2_with fail
        go_roundw
        case rel => exact ⟨k + 1, by omega, by go_num, hfin, hfr4, hrl4⟩
        case measure => simp [intOf]; omega
      · rw [List.take_of_length_le (by omega)] at ho1
        go_wp2_with fail
        go_ret
        exact ⟨_, rfl, ho1, Fr.trans (Fr.alloc (Fr.refl _ w) _) hfr, own_later (a := w.heap.size) (by simp) hrl⟩
end Go.Proofs.Ytgagbbhnifkclaa
