/- Programs done with fuel: the reference's run in memory, and what its functions promise. Plain; the small walks. -/
import Derived.Test.YtgoinmdnpaknpaaBigX
import Derived.Deep.DeepCutAuto
import Derived.Deep.QuietTactic
import Derived.BigQuiet
set_option linter.unusedVariables false
set_option linter.unusedSimpArgs false
set_option maxRecDepth 100000
namespace Go.Proofs.Ytgoinmdnpaknpaa
open Go.RowKit
attribute [local irreducible] wpList
/-- The reference's run. -/
def RunS (M : MCfg) (most : Nat) (w : World) (vt : Value) (fuel used : Nat) : Prop :=
  w.heap[M.R]? = some (.cells #[.slice M.Ap M.np M.cp, .slice M.Ai M.ni M.ci, .int .i64 used, .int .i64 fuel, .int .i64 most, vt] 87)
/-- A function's cells. -/
structure FCf where
  f0 : Int
  f1 : Int
  Ab : Option Addr
  nb : Nat
  cb : Nat
  As : Option Addr
  ns : Nat
  cs : Nat
/-- The reference's call. -/
def ClS (w : World) (c : Nat) (F : FCf) (vv vo : Value) (res : Int) (deep : Nat) (y : Nat) : Prop :=
  w.heap[c]? = some (.cells #[.int .i64 F.f0, .int .i64 F.f1, .slice F.Ab F.nb F.cb, .slice F.As F.ns F.cs, vv, vo, .int .i64 res, .int .i64 deep, .pointer (some ⟨y, 0, none⟩)] 124)
/-- An ending's block. -/
def EnS (w : World) (y : Nat) (how val base : Int) : Prop := w.heap[y]? = some (.cells #[.int .i64 how, .int .i64 val, .int .i64 base] 94)
section
variable {M : MCfg} {most : Nat} {w w' : World} {vt vv vo : Value} {fuel used c y deep : Nat} {F : FCf} {res how val base : Int}
theorem RunS.cell (h : RunS M most w vt fuel used) (i : Nat) {v : Value} (hv : (#[.slice M.Ap M.np M.cp, .slice M.Ai M.ni M.ci, .int .i64 used, .int .i64 fuel, .int .i64 most, vt] : Array Value)[i]? = some v := by rfl) : w.cell? ⟨M.R, i, none⟩ = some v := by
  rw [cell_of_row _ _ _ _ _ _ h]; exact hv
theorem ClS.cell (h : ClS w c F vv vo res deep y) (i : Nat) {v : Value} (hv : (#[.int .i64 F.f0, .int .i64 F.f1, .slice F.Ab F.nb F.cb, .slice F.As F.ns F.cs, vv, vo, .int .i64 res, .int .i64 deep, .pointer (some ⟨y, 0, none⟩)] : Array Value)[i]? = some v := by rfl) : w.cell? ⟨c, i, none⟩ = some v := by
  rw [cell_of_row _ _ _ _ _ _ h]; exact hv
theorem EnS.cell (h : EnS w y how val base) (i : Nat) {v : Value} (hv : (#[.int .i64 how, .int .i64 val, .int .i64 base] : Array Value)[i]? = some v := by rfl) : w.cell? ⟨y, i, none⟩ = some v := by
  rw [cell_of_row _ _ _ _ _ _ h]; exact hv
theorem RunS.fr (h : RunS M most w vt fuel used) {G : List Nat} (hf : Fr G w w') (hG : M.R ∉ G) : RunS M most w' vt fuel used := (hf.block M.R (blk_size h) hG).trans h
theorem ClS.fr (h : ClS w c F vv vo res deep y) {G : List Nat} (hf : Fr G w w') (hG : c ∉ G) : ClS w' c F vv vo res deep y := (hf.block c (blk_size h) hG).trans h
theorem EnS.fr (h : EnS w y how val base) {G : List Nat} (hf : Fr G w w') (hG : y ∉ G) : EnS w' y how val base := (hf.block y (blk_size h) hG).trans h
theorem RunS.putFuel (h : RunS M most w vt fuel used) (n : Nat) : RunS M most (w.setCell ⟨M.R, 3, none⟩ (.int .i64 n)) vt n used := by unfold RunS; rw [heapPut h]; rfl
theorem RunS.putTr (h : RunS M most w vt fuel used) (v : Value) : RunS M most (w.setCell ⟨M.R, 5, none⟩ v) v fuel used := by unfold RunS; rw [heapPut h]; rfl
theorem RunS.putUsed (h : RunS M most w vt fuel used) (n : Nat) : RunS M most (w.setCell ⟨M.R, 2, none⟩ (.int .i64 n)) vt fuel n := by unfold RunS; rw [heapPut h]; rfl
theorem ClS.putRes (h : ClS w c F vv vo res deep y) (n : Int) : ClS (w.setCell ⟨c, 6, none⟩ (.int .i64 n)) c F vv vo n deep y := by unfold ClS; rw [heapPut h]; rfl
theorem ClS.putOff (h : ClS w c F vv vo res deep y) (v : Value) : ClS (w.setCell ⟨c, 5, none⟩ v) c F vv v res deep y := by unfold ClS; rw [heapPut h]; rfl
theorem EnS.put (h : EnS w y how val base) (a b : Int) : EnS ((w.setCell ⟨y, 0, none⟩ (.int .i64 a)).setCell ⟨y, 1, none⟩ (.int .i64 b)) y a b base := by
  unfold EnS; rw [heapPut (heapPut h)]; rfl
theorem EnS.putBase (h : EnS w y how val base) (a : Int) : EnS (w.setCell ⟨y, 2, none⟩ (.int .i64 a)) y how val a := by unfold EnS; rw [heapPut h]; rfl
end
/-- The ending that may be recovered lies in its block. -/
def ByS (w : World) (y : Nat) : Option BEnd → Prop
  | none => EnS w y 0 0 0
  | some e => ∃ v, EnS w y e.how v (if e.ex = true then 3 else 1) ∧ (e.how = 2 → v = e.val) ∧ I64 v
theorem ByS.fr {w w' : World} {y : Nat} {G : List Nat} : ∀ {b : Option BEnd}, ByS w y b → Fr G w w' → y ∉ G → ByS w' y b
  | none, h, hf, hG => EnS.fr h hf hG
  | some _, ⟨v, h, h2⟩, hf, hG => ⟨v, h.fr hf hG, h2⟩
theorem ByS.lt {w : World} {y : Nat} : ∀ {b : Option BEnd}, ByS w y b → y < w.heap.size
  | none, h => blk_size (show w.heap[y]? = _ from h)
  | some _, ⟨_, h, _⟩ => blk_size h
theorem specCost0 (M : MCfg) (most : Nat) (w : World) (vt : Value) (used : Nat) (h : RunS M most w vt 0 used) :
    Calls Try.prog 73 #[.pointer (some ⟨M.R, 0, none⟩)] w (fun e w' => e = .returned (.bool false) ∧ w = w') := by
  have c3 := h.cell 3
  have hR := blk_size h
  clear h
  go_enter Try.func73, Try.ntmps73
  go_wp2_with fail
  go_ret
  exact ⟨rfl, rfl⟩
theorem specCost1 (M : MCfg) (most : Nat) (w : World) (vt : Value) (fuel used : Nat) (h : RunS M most w vt (fuel + 1) used) (hf : fuel ≤ 600) :
    Calls Try.prog 73 #[.pointer (some ⟨M.R, 0, none⟩)] w (fun e w' => e = .returned (.bool true) ∧ RunS M most w' vt fuel used ∧ Fr [M.R] w w') := by
  have H := Lib.hid h
  have c3 := h.cell 3
  have z3 := blk_frozen h 3
  have hR := blk_size h
  have e1 : ((fuel + 1 : Nat) : Int) - 1 = (fuel : Int) := by omega
  have e2 : (((fuel + 1 : Nat) : Int) == 0) = false := by rw [beq_eq_false_iff_ne]; omega
  clear h
  go_enter Try.func73, Try.ntmps73
  go_wp2_with fail
  go_ret
  exact ⟨rfl, H.out.putFuel fuel, Fr.setCell (p := ⟨M.R, 3, none⟩) (Fr.refl _ _) (List.mem_singleton.2 rfl) _⟩
theorem specRecover (w : World) (y : Nat) (b : Option BEnd) (h : ByS w y b) (hok : ByOk b) :
    Calls Try.prog 131 #[.pointer (some ⟨y, 0, none⟩)] w (fun e w' => e = .returned (.int .i64 (recv b).1) ∧ Hid (ByS w' y (recv b).2) ∧ Fr [y] w w') := by
  match b, h with
  | none, h =>
    have c0 := h.cell 0
    have hR := blk_size (show w.heap[y]? = _ from h)
    have H := Lib.hid (show ByS w y none from h)
    clear h
    go_enter Try.func131, Try.ntmps131
    go_wp2_with fail
    go_ret
    exact ⟨rfl, H, Fr.refl _ _⟩
  | some e, ⟨v, h, hp, hv⟩ =>
    have H := Lib.hid h
    have HP := Lib.hid hp
    have HV := Lib.hid hv
    have c0 := h.cell 0
    have c1 := h.cell 1
    have c2 := h.cell 2
    have z0 := blk_frozen h 0
    have z1 := blk_frozen h 1
    have hR := blk_size h
    obtain ⟨⟨o1, o2⟩, o3⟩ := hok e rfl
    obtain ⟨how, val, ex⟩ := e
    simp only at c0 c2 o1 o2 o3
    obtain ⟨base, hb⟩ : ∃ base : Int, (if ex = true then (3 : Int) else 1) = base := ⟨_, rfl⟩
    rw [hb] at c2
    have HB := Lib.hid hb
    clear h hp hv hb
    by_cases h2 : how = 2
    · subst h2
      go_enter Try.func131, Try.ntmps131
      go_wp2_with fail
      go_ret
      refine ⟨ret_int (HP.out (by trivial)), Lib.hid ?_, Fr.setCell (p := ⟨y, 1, none⟩) (Fr.setCell (p := ⟨y, 0, none⟩) (Fr.refl _ _) (by simp) _) (by simp) _⟩
      refine ⟨0, ?_, fun h => ?_, by unfold I64; omega⟩
      · have h9 := H.out.put base 0
        simp only [recv] at h9 ⊢
        rw [HB.out] at h9 ⊢
        exact h9
      · simp [recv]
    · have h2b : (how != 2) = true := bne_iff_ne.2 h2
      go_enter Try.func131, Try.ntmps131
      go_wp2_with fail
      go_ret
      have e1 : recv (some ⟨how, val, ex⟩) = (0, some ⟨how, val, ex⟩) := by unfold recv; simp only; rw [if_neg h2]
      rw [e1]
      exact ⟨rfl, Lib.hid ⟨v, H.out, HP.out, HV.out⟩, Fr.refl _ _⟩
/-- The run, where the fuel is known. -/
structure MtS (M : MCfg) (C : BCfg) (w : World) (vt : Value) (Ft : List Nat) (st : BSt) : Prop where
  run : RunS M C.most w vt st.fuel st.used
  tr : OwnSl intR w 3 Ft vt st.tr
/-- The run, where it may have stopped. -/
def MwS (M : MCfg) (C : BCfg) (w : World) (vt : Value) (Ft : List Nat) (how : Int) (st : BSt) : Prop := ∃ f, MtS M C w vt Ft { st with fuel := f } ∧ (how < 4 → f = st.fuel)
theorem MwS.of {M : MCfg} {C : BCfg} {w : World} {vt : Value} {Ft : List Nat} {how : Int} {st : BSt} (h : MtS M C w vt Ft st) : MwS M C w vt Ft how st := ⟨st.fuel, h, fun _ => rfl⟩
theorem MwS.go {M : MCfg} {C : BCfg} {w : World} {vt : Value} {Ft : List Nat} {how : Int} {st : BSt} (h : MwS M C w vt Ft how st) (h4 : how < 4) : MtS M C w vt Ft st := by
  obtain ⟨f, h1, h2⟩ := h
  rw [h2 h4] at h1
  exact h1
theorem MtS.fr {M : MCfg} {C : BCfg} {w w' : World} {vt : Value} {Ft : List Nat} {st : BSt} {G : List Nat} (h : MtS M C w vt Ft st) (hf : Fr G w w') (h1 : M.R ∉ G) (h2 : ∀ k, k ∈ Ft → k ∉ G) : MtS M C w' vt Ft st := ⟨h.run.fr hf h1, h.tr.fr hf h2⟩
/-- A call under way. -/
structure FtS (w : World) (c : Nat) (F : FCf) (vv vo : Value) (Fv Fo : List Nat) (fr : BFr) (deep y : Nat) : Prop where
  cl : ClS w c F vv vo fr.res deep y
  vars : OwnSl intR w 3 Fv vv fr.vars
  off : OwnSl intR w 3 Fo vo fr.off
theorem FtS.fr {w w' : World} {c : Nat} {F : FCf} {vv vo : Value} {Fv Fo : List Nat} {fr : BFr} {deep y : Nat} {G : List Nat} (h : FtS w c F vv vo Fv Fo fr deep y) (hf : Fr G w w') (h1 : c ∉ G) (h2 : ∀ k, k ∈ Fv → k ∉ G) (h3 : ∀ k, k ∈ Fo → k ∉ G) : FtS w' c F vv vo Fv Fo fr deep y := ⟨h.cl.fr hf h1, h.vars.fr hf h2, h.off.fr hf h3⟩
/-- Before a statement. -/
structure PrS (M : MCfg) (C : BCfg) (B c fn : Nat) (F : FCf) (y : Nat) (w : World) (Ft Fv Fo : List Nat) (vt vv vo : Value) (deep : Nat) (fr : BFr) (st : BSt) : Prop where
  ctx : Ctx M C B w
  code : Sl StmtR w 0 B F.As F.ns F.cs (C.fn fn).2.2.2
  m : MtS M C w vt Ft st
  f : FtS w c F vv vo Fv Fo fr deep y
  by_ : ByS w y fr.by_
  sep : Sep M B Ft c Fv Fo (some y)
  fnl : fn < C.p.length
  sok : StOk C 600 st
  fok : FrOk C (C.fn fn).2.1 fr st.fuel
  deep : 1 ≤ deep ∧ deep ≤ C.most
def RetStS (M : MCfg) (C : BCfg) (B c fn : Nat) (F : FCf) (y : Nat) (w : World) (Ft Fv Fo : List Nat) (vv : Value) (deep : Nat) (r : BRes × BFr × BSt) (e : Ending) (w' : World) : Prop :=
  ∃ (n : Int) (vt' vo' : Value) (Ft' Fo' : List Nat), e = .returned (.agg #[.int .i64 r.1.1, .int .i64 n]) ∧ I64 n ∧ Hid (r.1.1 = 2 → n = r.1.2) ∧ Hid (MwS M C w' vt' Ft' r.1.1 r.2.2) ∧ Hid (FtS w' c F vv vo' Fv Fo' r.2.1 deep y) ∧ Hid (ByS w' y r.2.1.by_) ∧
    Hid (Fr (GB M Ft c Fv Fo (some y)) w w') ∧ Hid (∀ k, k ∈ GB M Ft' c Fv Fo' (some y) → k ∈ GB M Ft c Fv Fo (some y) ∨ w.heap.size ≤ k) ∧ Hid (Sep M B Ft' c Fv Fo' (some y))
section
variable {M : MCfg} {C : BCfg} {B c fn : Nat} {F : FCf} {y : Nat} {w w' : World} {Ft Fv Fo : List Nat} {vt vv vo : Value} {deep : Nat} {fr : BFr} {st : BSt}
theorem slB {α : Type} {R : Rp α} {A : Option Addr} {n cc : Nat} {l : List α} (h : Sl R w 0 B A n cc l) (hB : B ≤ w.heap.size) {G : List Nat} (hf : Fr G w w') (hG : ∀ k, k ∈ G → B ≤ k) : Sl R w' 0 B A n cc l :=
  h.keep (Nat.le_refl _) (Nat.le_refl _) (fun j _ hj => hf.block j (by omega) (fun hg => by have := hG j hg; omega))
/-- Blocks that are none of the call's have turned. -/
theorem PrS.move {G : List Nat} (h : PrS M C B c fn F y w Ft Fv Fo vt vv vo deep fr st) (hf : Fr G w w') (hG : ∀ k, k ∈ G → k ∉ GB M Ft c Fv Fo (some y)) (hB : ∀ k, k ∈ G → B ≤ k) : PrS M C B c fn F y w' Ft Fv Fo vt vv vo deep fr st := by
  have n1 : M.R ∉ G := fun h => hG _ h (by unfold GB; simp)
  have n2 : c ∉ G := fun h => hG _ h (by unfold GB; simp)
  have n3 : ∀ k, k ∈ Ft → k ∉ G := fun k hk h => hG _ h (by unfold GB; simp [hk])
  have n4 : ∀ k, k ∈ Fv → k ∉ G := fun k hk h => hG _ h (by unfold GB; simp [hk])
  have n5 : ∀ k, k ∈ Fo → k ∉ G := fun k hk h => hG _ h (by unfold GB; simp [hk])
  have n6 : y ∉ G := fun h => hG _ h (by unfold GB; simp)
  exact ⟨h.ctx.fr hf hB, slB h.code h.ctx.le hf hB, h.m.fr hf n1 n3, h.f.fr hf n2 n4 n5, h.by_.fr hf n6, h.sep, h.fnl, h.sok, h.fok, h.deep⟩
theorem PrS.keep (h : PrS M C B c fn F y w Ft Fv Fo vt vv vo deep fr st) (hb : Below w.heap.size w w') : PrS M C B c fn F y w' Ft Fv Fo vt vv vo deep fr st := h.move (Fr.of_below (F := []) hb) (by simp) (by simp)
theorem PrS.lt (hp : PrS M C B c fn F y w Ft Fv Fo vt vv vo deep fr st) : ∀ k, k ∈ GB M Ft c Fv Fo (some y) → k < w.heap.size := fun k hk => by
  unfold GB at hk
  simp only [List.mem_cons, List.mem_append, Option.toList_some, List.mem_nil_iff, or_false] at hk
  rcases hk with rfl | hk | rfl | hk | hk | rfl
  · exact blk_size hp.m.run
  · exact hp.m.tr.lt k hk
  · exact blk_size hp.f.cl
  · exact hp.f.vars.lt k hk
  · exact hp.f.off.lt k hk
  · exact hp.by_.lt
theorem PrS.burn (h : PrS M C B c fn F y w Ft Fv Fo vt vv vo deep fr st) {q : Nat} (hq : st.fuel = q + 1) (hr : RunS M C.most w' vt q st.used) (hf : Fr [M.R] w w') : PrS M C B c fn F y w' Ft Fv Fo vt vv vo deep fr { st with fuel := q } := by
  obtain ⟨p1, p2, p3, p4, p5, p6, p7, p8, p9, p10⟩ := h.sep.parts
  have hs := h.sok.burn (by omega)
  rw [hq, Nat.add_sub_cancel] at hs
  have hB : ∀ k, k ∈ [M.R] → B ≤ k := fun k hk => by rw [List.mem_singleton.1 hk]; exact h.sep.ge _ (List.mem_cons_self ..)
  exact ⟨h.ctx.fr hf hB, slB h.code h.ctx.le hf hB, ⟨hr, h.m.tr.fr hf (not_one p1)⟩, h.f.fr hf (by simpa using fun e => p2 e.symm) (not_one p3) (not_one p4), h.by_.fr hf (fun hk => (p10 y rfl).1 (List.mem_singleton.1 hk)), h.sep, h.fnl, hs.more (by omega), h.fok.less (by simp only; omega), h.deep⟩
/-- The result is set. -/
theorem PrS.setRes (h : PrS M C B c fn F y w Ft Fv Fo vt vv vo deep fr st) {n : Int} (hn : I32 n) :
    PrS M C B c fn F y (w.setCell ⟨c, 6, none⟩ (.int .i64 n)) Ft Fv Fo vt vv vo deep { fr with res := n } st ∧ Fr [c] w (w.setCell ⟨c, 6, none⟩ (.int .i64 n)) := by
  obtain ⟨p1, p2, p3, p4, p5, p6, p7, p8, p9, p10⟩ := h.sep.parts
  have hf : Fr [c] w (w.setCell ⟨c, 6, none⟩ (.int .i64 n)) := Fr.one w _
  have hB : ∀ k, k ∈ [c] → B ≤ k := fun k hk => by rw [List.mem_singleton.1 hk]; exact h.sep.ge _ (by unfold GB; simp)
  exact ⟨⟨h.ctx.fr hf hB, slB h.code h.ctx.le hf hB, h.m.fr hf (by simpa using p2) (not_one p5), ⟨h.f.cl.putRes n, h.f.vars.fr hf (not_one p6), h.f.off.fr hf (not_one p7)⟩, h.by_.fr hf (fun hk => (p10 y rfl).2.1 (List.mem_singleton.1 hk)), h.sep, h.fnl, h.sok, ⟨h.fok.vars, h.fok.small, h.fok.long, h.fok.off, hn, h.fok.by_⟩, h.deep⟩, hf⟩
/-- A variable is set. -/
theorem PrS.setVar (h : PrS M C B c fn F y w Ft Fv Fo vt vv vo deep fr st) {n : Int} {g j : Nat} (hn : I32 n) (hg : g ∈ Fv) (hs : OwnSl intR (w.setCell ⟨g, j, none⟩ (.int .i64 n)) 3 Fv vv (fr.vars.set j n)) :
    PrS M C B c fn F y (w.setCell ⟨g, j, none⟩ (.int .i64 n)) Ft Fv Fo vt vv vo deep { fr with vars := fr.vars.set j n } st ∧ Fr [g] w (w.setCell ⟨g, j, none⟩ (.int .i64 n)) := by
  obtain ⟨p1, p2, p3, p4, p5, p6, p7, p8, p9, p10⟩ := h.sep.parts
  have hf : Fr [g] w (w.setCell ⟨g, j, none⟩ (.int .i64 n)) := Fr.one w _
  have hB : ∀ k, k ∈ [g] → B ≤ k := fun k hk => by rw [List.mem_singleton.1 hk]; exact h.sep.ge _ (by unfold GB; simp [hg])
  refine ⟨⟨h.ctx.fr hf hB, slB h.code h.ctx.le hf hB, h.m.fr hf (fun hk => p3 (by rw [List.mem_singleton.1 hk]; exact hg)) (not_one (fun hk => (p8 g hk).1 hg)), ⟨h.f.cl.fr hf (fun hk => p6 (by rw [List.mem_singleton.1 hk]; exact hg)), hs, h.f.off.fr hf (not_one (p9 g hg))⟩, h.by_.fr hf (fun hk => (p10 y rfl).2.2.2.1 (by rw [List.mem_singleton.1 hk]; exact hg)), h.sep, h.fnl, h.sok, ⟨by rw [List.length_set]; exact h.fok.vars, fun k hk => ?_, h.fok.long, h.fok.off, h.fok.res, h.fok.by_⟩, h.deep⟩, hf⟩
  rcases List.mem_or_eq_of_mem_set hk with hk | rfl
  · exact h.fok.small k hk
  · exact hn
/-- A call more is put off. -/
theorem PrS.setOff {w8 : World} {v8 : Value} {F8 : List Nat} (h : PrS M C B c fn F y w Ft Fv Fo vt vv vo deep fr st) {g : Int} (h8 : OwnSl intR w8 3 F8 v8 (fr.off ++ [g])) (hf0 : Fr vo.ownBlock.toList w w8) (hF : ∀ k, k ∈ F8 → k ∈ Fo ∨ k = w.heap.size)
    (hfr : FrOk C (C.fn fn).2.1 { fr with off := fr.off ++ [g] } st.fuel) :
    PrS M C B c fn F y (w8.setCell ⟨c, 5, none⟩ v8) Ft Fv F8 vt vv v8 deep { fr with off := fr.off ++ [g] } st ∧ Fr (GB M Ft c Fv Fo (some y)) w (w8.setCell ⟨c, 5, none⟩ v8) ∧ (∀ k, k ∈ GB M Ft c Fv F8 (some y) → k ∈ GB M Ft c Fv Fo (some y) ∨ w.heap.size ≤ k) := by
  obtain ⟨p1, p2, p3, p4, p5, p6, p7, p8, p9, p10⟩ := h.sep.parts
  have hlt := h.lt
  have hf : Fr Fo w w8 := hf0.more (fun k hk => h.f.off.ownB k (by simpa using hk))
  have h9 : Fr [c] w8 (w8.setCell ⟨c, 5, none⟩ v8) := Fr.one w8 _
  have hw : Fr (GB M Ft c Fv Fo (some y)) w (w8.setCell ⟨c, 5, none⟩ v8) := Fr.trans (hf.more (fun k hk => by unfold GB; simp [hk])) (h9.more (fun k hk => by rw [List.mem_singleton.1 hk]; unfold GB; simp))
  have hcl : c < w.heap.size := blk_size h.f.cl
  have hc8 : c ∉ F8 := fun hk => by rcases hF c hk with h1 | h1; exact p7 h1; omega
  have hB := h.ctx.le
  refine ⟨⟨h.ctx.fr hw h.sep.ge, slB h.code h.ctx.le hw h.sep.ge, (h.m.fr hf p4 (fun k hk => (p8 k hk).2)).fr h9 (by simpa using p2) (not_one p5), ⟨(h.f.cl.fr hf p7).putOff v8, (h.f.vars.fr hf p9).fr h9 (not_one p6), h8.fr h9 (not_one hc8)⟩, (h.by_.fr hf (p10 y rfl).2.2.2.2).fr h9 (fun hk => (p10 y rfl).2.1 (List.mem_singleton.1 hk)),
    h.sep.grow (N := w.heap.size) (ownB_nd h.m.tr) (ownB_nd h.f.vars) (ownB_nd h8) (fun k hk => Or.inl hk) (fun k hk => (hF k hk).imp id (fun e => by omega)) (fun k hk hk2 => by have := h.m.tr.lt k hk; omega) hlt hB, h.fnl, h.sok, hfr, h.deep⟩, hw, fun k hk => ?_⟩
  unfold GB at hk ⊢
  simp only [List.mem_cons, List.mem_append] at hk ⊢
  rcases hk with h1 | h1 | h1 | h1 | h1 | h1
  · exact Or.inl (Or.inl h1)
  · exact Or.inl (Or.inr (Or.inl h1))
  · exact Or.inl (Or.inr (Or.inr (Or.inl h1)))
  · exact Or.inl (Or.inr (Or.inr (Or.inr (Or.inl h1))))
  · rcases hF k h1 with h2 | h2
    · exact Or.inl (Or.inr (Or.inr (Or.inr (Or.inr (Or.inl h2)))))
    · exact Or.inr (by omega)
  · exact Or.inl (Or.inr (Or.inr (Or.inr (Or.inr (Or.inr h1)))))
/-- The trace has grown. -/
theorem PrS.setTr {w8 : World} {v8 : Value} {F8 : List Nat} (h : PrS M C B c fn F y w Ft Fv Fo vt vv vo deep fr st) {g : Int} (h8 : OwnSl intR w8 3 F8 v8 (st.tr ++ [g])) (hf0 : Fr vt.ownBlock.toList w w8) (hF : ∀ k, k ∈ F8 → k ∈ Ft ∨ k = w.heap.size)
    (hst : StOk C 600 { st with tr := st.tr ++ [g] }) :
    PrS M C B c fn F y (w8.setCell ⟨M.R, 5, none⟩ v8) F8 Fv Fo v8 vv vo deep fr { st with tr := st.tr ++ [g] } ∧ Fr (GB M Ft c Fv Fo (some y)) w (w8.setCell ⟨M.R, 5, none⟩ v8) ∧ (∀ k, k ∈ GB M F8 c Fv Fo (some y) → k ∈ GB M Ft c Fv Fo (some y) ∨ w.heap.size ≤ k) := by
  obtain ⟨p1, p2, p3, p4, p5, p6, p7, p8, p9, p10⟩ := h.sep.parts
  have hlt := h.lt
  have hf : Fr Ft w w8 := hf0.more (fun k hk => h.m.tr.ownB k (by simpa using hk))
  have h9 : Fr [M.R] w8 (w8.setCell ⟨M.R, 5, none⟩ v8) := Fr.one w8 _
  have hw : Fr (GB M Ft c Fv Fo (some y)) w (w8.setCell ⟨M.R, 5, none⟩ v8) := Fr.trans (hf.more (fun k hk => by unfold GB; simp [hk])) (h9.more (fun k hk => by rw [List.mem_singleton.1 hk]; unfold GB; simp))
  have hcl : M.R < w.heap.size := blk_size h.m.run
  have hc8 : M.R ∉ F8 := fun hk => by rcases hF M.R hk with h1 | h1; exact p1 h1; omega
  have hv : ∀ k, k ∈ Fv → k ∉ Ft := fun k hk h => (p8 k h).1 hk
  have ho : ∀ k, k ∈ Fo → k ∉ Ft := fun k hk h => (p8 k h).2 hk
  have hB := h.ctx.le
  refine ⟨⟨h.ctx.fr hw h.sep.ge, slB h.code h.ctx.le hw h.sep.ge, ⟨(h.m.run.fr hf p1).putTr v8, h8.fr h9 (not_one hc8)⟩, (h.f.fr hf p5 hv ho).fr h9 (by simpa using fun e => p2 e.symm) (not_one p3) (not_one p4), (h.by_.fr hf (p10 y rfl).2.2.1).fr h9 (fun hk => (p10 y rfl).1 (List.mem_singleton.1 hk)),
    h.sep.grow (N := w.heap.size) (ownB_nd h8) (ownB_nd h.f.vars) (ownB_nd h.f.off) (fun k hk => (hF k hk).imp id (fun e => by omega)) (fun k hk => Or.inl hk) (fun k hk hk2 hk3 => by have := h.f.off.lt k hk3; omega) hlt hB, h.fnl, hst, h.fok, h.deep⟩, hw, fun k hk => ?_⟩
  unfold GB at hk ⊢
  simp only [List.mem_cons, List.mem_append] at hk ⊢
  rcases hk with h1 | h1 | h1
  · exact Or.inl (Or.inl h1)
  · rcases hF k h1 with h2 | h2
    · exact Or.inl (Or.inr (Or.inl h2))
    · exact Or.inr (by omega)
  · exact Or.inl (Or.inr (Or.inr h1))
/-- A part behind another. -/
theorem RetStS.behind {w1 : World} {Ft1 Fo1 : List Nat} {r : BRes × BFr × BSt} {e : Ending}
    (hfr : Fr (GB M Ft c Fv Fo (some y)) w w1) (hin : ∀ k, k ∈ GB M Ft1 c Fv Fo1 (some y) → k ∈ GB M Ft c Fv Fo (some y) ∨ w.heap.size ≤ k) (h : RetStS M C B c fn F y w1 Ft1 Fv Fo1 vv deep r e w') : RetStS M C B c fn F y w Ft Fv Fo vv deep r e w' := by
  obtain ⟨n, vt', vo', Ft', Fo', he, hn, h2, h3, h4, h5, h7, h8, h9⟩ := h
  refine ⟨n, vt', vo', Ft', Fo', he, hn, h2, h3, h4, h5, Lib.hid (FrR.trans hfr h7.out hin), Lib.hid (fun k hk => ?_), h9⟩
  rcases h8.out k hk with h | h
  · exact hin k h
  · exact Or.inr (Nat.le_trans hfr.size h)
theorem RetStS.ofPre {Ft' Fo' : List Nat} {vt' vo' : Value} {fr' : BFr} {st' : BSt} {how v n : Int} (h : PrS M C B c fn F y w' Ft' Fv Fo' vt' vv vo' deep fr' st') (hn : I64 n) (hv : how = 2 → n = v)
    (hfr : Fr (GB M Ft c Fv Fo (some y)) w w') (hin : ∀ k, k ∈ GB M Ft' c Fv Fo' (some y) → k ∈ GB M Ft c Fv Fo (some y) ∨ w.heap.size ≤ k) : RetStS M C B c fn F y w Ft Fv Fo vv deep ((how, v), fr', st') (.returned (.agg #[.int .i64 how, .int .i64 n])) w' :=
  ⟨n, vt', vo', Ft', Fo', rfl, hn, Lib.hid hv, Lib.hid (MwS.of h.m), Lib.hid h.f, Lib.hid h.by_, Lib.hid hfr, Lib.hid hin, Lib.hid h.sep⟩
/-- Behind a statement that goes on. -/
theorem RetStS.next {Ft' Fo' : List Nat} {vt' vo' : Value} {fr' : BFr} {st' : BSt} (h : PrS M C B c fn F y w Ft Fv Fo vt vv vo deep fr st) (hm : MwS M C w' vt' Ft' 0 st') (hf : FtS w' c F vv vo' Fv Fo' fr' deep y) (hb : ByS w' y fr'.by_) (hfr : Fr (GB M Ft c Fv Fo (some y)) w w') (hs : Sep M B Ft' c Fv Fo' (some y))
    (sok : StOk C 600 st') (fok : FrOk C (C.fn fn).2.1 fr' st'.fuel) : PrS M C B c fn F y w' Ft' Fv Fo' vt' vv vo' deep fr' st' :=
  ⟨h.ctx.fr hfr h.sep.ge, slB h.code h.ctx.le hfr h.sep.ge, hm.go (by omega), hf, hb, hs, h.fnl, sok, fok, h.deep⟩
end
/-- What is promised of the reference's functions at a fuel. -/
def StmtJ (M : MCfg) (C : BCfg) (N : Nat) : Prop := ∀ (B c fn : Nat) (F : FCf) (y : Nat) (w : World) (Ft Fv Fo : List Nat) (vt vv vo : Value) (deep : Nat) (fr : BFr) (st : BSt) (x0 x1 : Int) (A2 A3 A4 : Option Addr) (n2 c2 n3 c3 n4 c4 : Nat) (s : Stmt),
  PrS M C B c fn F y w Ft Fv Fo vt vv vo deep fr st → st.fuel ≤ N → s ∈ (C.fn fn).2.2.2 → s.1 = x0 → s.2.1 = x1 → I64 x0 → I64 x1 → Sl TokR w 0 B A2 n2 c2 s.2.2.1 → Sl intR w 0 B A3 n3 c3 s.2.2.2.1 → Sl intR w 0 B A4 n4 c4 s.2.2.2.2 →
  Calls Try.prog 103 #[.pointer (some ⟨M.R, 0, none⟩), .pointer (some ⟨c, 0, none⟩), .agg #[.int .i64 x0, .int .i64 x1, .slice A2 n2 c2, .slice A3 n3 c3, .slice A4 n4 c4]] w (RetStS M C B c fn F y w Ft Fv Fo vv deep ((big C N).2 (C.fn fn) s deep fr st))
def BlockJ (M : MCfg) (C : BCfg) (N : Nat) : Prop := ∀ (B c fn : Nat) (F : FCf) (y : Nat) (w : World) (Ft Fv Fo : List Nat) (vt vv vo : Value) (deep : Nat) (fr : BFr) (st : BSt) (A : Option Addr) (n cc : Nat) (ns : List Int),
  PrS M C B c fn F y w Ft Fv Fo vt vv vo deep fr st → st.fuel ≤ N → (∀ k, k ∈ ns → 0 ≤ k ∧ k < ((C.fn fn).2.2.2.length : Int)) → Sl intR w 0 B A n cc ns →
  Calls Try.prog 74 #[.pointer (some ⟨M.R, 0, none⟩), .pointer (some ⟨c, 0, none⟩), .slice A n cc] w (RetStS M C B c fn F y w Ft Fv Fo vv deep (bBlock (big C N).2 (C.fn fn) deep ns fr st))
def RetExS (M : MCfg) (C : BCfg) (B c fn : Nat) (F : FCf) (y : Nat) (w : World) (Ft Fv Fo : List Nat) (vv vo : Value) (deep : Nat) (r : Int × BRes × BFr × BSt) (e : Ending) (w' : World) : Prop :=
  ∃ (x n : Int) (vt' : Value) (Ft' : List Nat), e = .returned (.tuple #[.int .i64 x, .agg #[.int .i64 r.2.1.1, .int .i64 n]]) ∧ I64 x ∧ I64 n ∧ Hid ((r.2.1.1 = 0 → x = r.1) ∧ (r.2.1.1 = 2 → n = r.2.1.2)) ∧ Hid (MwS M C w' vt' Ft' r.2.1.1 r.2.2.2) ∧ Hid (FtS w' c F vv vo Fv Fo r.2.2.1 deep y) ∧ Hid (ByS w' y r.2.2.1.by_) ∧
    Hid (Fr (GB M Ft c Fv Fo (some y)) w w') ∧ Hid (∀ k, k ∈ GB M Ft' c Fv Fo (some y) → k ∈ GB M Ft c Fv Fo (some y) ∨ w.heap.size ≤ k) ∧ Hid (Sep M B Ft' c Fv Fo (some y))
def ExprJ (M : MCfg) (C : BCfg) (N : Nat) : Prop := ∀ (B c fn : Nat) (F : FCf) (y : Nat) (w : World) (Ft Fv Fo : List Nat) (vt vv vo : Value) (deep : Nat) (fr : BFr) (st : BSt) (A : Option Addr) (n cc : Nat) (ts : List Tok),
  PrS M C B c fn F y w Ft Fv Fo vt vv vo deep fr st → st.fuel ≤ N → ts.length ≤ 12 → toksOk (C.fn fn).2.1 (paramsF C.p) ts 0 → Sl TokR w 0 B A n cc ts →
  Calls Try.prog 122 #[.pointer (some ⟨M.R, 0, none⟩), .pointer (some ⟨c, 0, none⟩), .slice A n cc] w (RetExS M C B c fn F y w Ft Fv Fo vv vo deep (bExpr C (big C N).1 deep ts [] fr st))
def RetClS (M : MCfg) (C : BCfg) (y : Nat) (w : World) (Ft : List Nat) (r : Int × BRes × Option BEnd × BSt) (e : Ending) (w' : World) : Prop :=
  ∃ (x n : Int) (vt' : Value) (Ft' : List Nat), e = .returned (.tuple #[.int .i64 x, .agg #[.int .i64 r.2.1.1, .int .i64 n]]) ∧ I64 x ∧ I64 n ∧ Hid ((r.2.1.1 = 1 → x = r.1) ∧ (r.2.1.1 = 2 → n = r.2.1.2)) ∧ Hid (MwS M C w' vt' Ft' r.2.1.1 r.2.2.2) ∧ Hid (ByS w' y r.2.2.1) ∧
    Hid (Fr (M.R :: (Ft ++ [y])) w w') ∧ Hid (∀ k, k ∈ Ft' → k ∈ Ft ∨ w.heap.size ≤ k) ∧ Hid ((M.R :: (Ft' ++ [y])).Nodup)
def CallJ (M : MCfg) (C : BCfg) (N : Nat) : Prop := ∀ (B fn y : Nat) (b : Option BEnd) (w : World) (Ft : List Nat) (vt : Value) (deep : Nat) (st : BSt) (A : Option Addr) (n cc : Nat) (given : List Int),
  Ctx M C B w → MtS M C w vt Ft st → ByS w y b → ByOk b → (M.R :: (Ft ++ [y])).Nodup → (∀ k, k ∈ M.R :: (Ft ++ [y]) → B ≤ k) → fn < C.p.length → given.length ≤ (C.fn fn).2.1.toNat → (∀ x, x ∈ given → I32 x) → StOk C 600 st → st.fuel ≤ N → deep ≤ C.most → Sl intR w 0 w.heap.size A n cc given → (∀ a, A = some a → a.block ≠ M.R) →
  Calls Try.prog 54 #[.pointer (some ⟨M.R, 0, none⟩), .int .i64 fn, .slice A n cc, .int .i64 (deep + 1 : Nat), .pointer (some ⟨y, 0, none⟩)] w (RetClS M C y w Ft ((big C N).1 fn given (deep + 1) b st))
end Go.Proofs.Ytgoinmdnpaknpaa
