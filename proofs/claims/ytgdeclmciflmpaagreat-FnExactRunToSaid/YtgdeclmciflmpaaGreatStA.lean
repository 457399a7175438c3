/- Several texts in one: StepM, StepN, StepO, StepI1, StepI2. -/
import Derived.Test.YtgdeclmciflmpaaGreatStepP
import Derived.Test.YtgdeclmciflmpaaGreatOwnI
import Derived.Test.YtgdeclmciflmpaaGreatKit1
import Derived.Test.YtgdeclmciflmpaaGreatMkVx
import Derived.Test.YtgdeclmciflmpaaGreatNewV
import Derived.Deep.QuietTactic
import Derived.BigQuiet

/- The machine in memory: its block, frames, trace and notes, and what a store does to them. No program. -/
set_option linter.unusedVariables false
set_option linter.unusedSimpArgs false
set_option maxRecDepth 100000
namespace Go.Proofs.YtgdeclmciflmpaaGreat
open Go.RowKit
theorem All3.put3s {α β γ : Type} {P Q : α → β → γ → Prop} : ∀ {xs : List α} {ys : List β} {zs : List γ} (_ : All3 P xs ys zs) (j : Nat) (hj : j < xs.length) (a : α) (b : β) (c : γ), Q a b c →
    (∀ a b c, a ∈ xs.take j ++ xs.drop (j + 1) → P a b c → Q a b c) → All3 Q (xs.set j a) (ys.set j b) (zs.set j c)
  | x :: xs, y :: ys, z :: zs, h, 0, _, a, b, c, hq, ho => ⟨hq, h.2.mono fun u v t hu hp => ho u v t (by simpa using hu) hp⟩
  | x :: xs, y :: ys, z :: zs, h, j + 1, hj, a, b, c, hq, ho =>
    ⟨ho x y z (by simp) h.1, All3.put3s (xs := xs) (ys := ys) (zs := zs) h.2 j (by simpa using hj) a b c hq fun u v t hu hp => ho u v t (by
      rcases List.mem_append.1 hu with hu | hu
      · exact List.mem_append_left _ (by simp [hu])
      · exact List.mem_append_right _ (by simpa using hu)) hp⟩
  | [], [], [], _, _, hj, _, _, _, _, _ => absurd hj (by simp)
  | [], [], _ :: _, h, _, _, _, _, _, _, _ => h.elim
  | [], _ :: _, [], h, _, _, _, _, _, _, _ => h.elim
  | [], _ :: _, _ :: _, h, _, _, _, _, _, _, _ => h.elim
  | _ :: _, [], [], h, _, _, _, _, _, _, _ => h.elim
  | _ :: _, [], _ :: _, h, _, _, _, _, _, _, _ => h.elim
  | _ :: _, _ :: _, [], h, _, _, _, _, _, _, _ => h.elim
/-- One element of an owned slice taken out and put back, with blocks of its own or new ones. -/
theorem OwnSl.focus3 {α : Type} {R : Rp α} {w : World} {e : TypeId} {F : List Nat} {A : Option Addr} {n c : Nat} {l : List α} (h : OwnSl R w e F (.slice A n c) l) (hp : 0 < R.size) {j : Nat} (hj : j < l.length) :
    ∃ g pre cs post Fj, A = some ⟨g, 0, none⟩ ∧ n = l.length ∧ pre.length = j * R.size ∧ R.own w Fj cs l[j] ∧ w.ownsRow 0 e R.size (.slice (some ⟨g, 0, none⟩) n c) n (pre ++ cs ++ post) ∧ g ∈ F ∧ g ∉ Fj ∧ (∀ k, k ∈ Fj → k ∈ F) ∧
      ∀ w' cs' x' Fx, R.own w' Fx cs' x' → (∀ k, k ∈ Fx → k ∈ Fj ∨ k ∉ F) → w'.ownsRow 0 e R.size (.slice (some ⟨g, 0, none⟩) n c) n (pre ++ cs' ++ post) → (∀ k, k ∈ F → k ≠ g → k ∉ Fj → w'.heap[k]? = w.heap[k]?) →
        ∃ F', OwnSl R w' e F' (.slice A n c) (l.set j x') ∧ ∀ k, k ∈ F' → k ∈ F ∨ k ∈ Fx := by
  obtain ⟨csl, Fs, h1, h2, rfl, hn⟩ := h
  have hl := h2.len
  obtain ⟨hnl, ⟨_, h0, _⟩ | ⟨g, rfl, _, _⟩⟩ := ownsRow_cases h1
  · omega
  subst hnl
  have hF : ((Value.slice (some ⟨g, 0, none⟩) l.length c).ownBlock.toList ++ Fs.flatten) = g :: Fs.flatten := rfl
  rw [hF] at hn ⊢
  have hg := (List.nodup_cons.1 hn).1
  have hjF : j < Fs.length := by omega
  have hjc : j < csl.length := by omega
  have hmem : ∀ k, k ∈ Fs[j] → k ∈ Fs.flatten := fun k hk => List.mem_flatten.2 ⟨_, List.getElem_mem hjF, hk⟩
  refine ⟨g, (csl.take j).flatten, csl[j], (csl.drop (j + 1)).flatten, Fs[j], rfl, rfl, ?_, h2.get j hjF hjc hj, ?_, List.mem_cons_self .., fun hx => hg (hmem g hx), fun k hk => List.mem_cons_of_mem _ (hmem k hk), ?_⟩
  · rw [flatten_len (s := R.size) (fun x hx => all3_len h2 x (List.mem_of_mem_take hx)), List.length_take, Nat.min_eq_left (by omega)]
  · rw [← flatten_at hjc]; exact h1
  · intro w' cs' x' Fx ho hd hr hk
    have h3 : All3 (R.own w') (Fs.set j Fx) (csl.set j cs') (l.set j x') := All3.put3s h2 j hjF Fx cs' x' ho (fun a b d ha hown => by
      have hin : ∀ k, k ∈ a → k ∈ Fs.flatten := fun k hka => by
        rcases List.mem_append.1 ha with ha | ha
        · exact List.mem_flatten.2 ⟨a, List.mem_of_mem_take ha, hka⟩
        · exact List.mem_flatten.2 ⟨a, List.mem_of_mem_drop ha, hka⟩
      exact R.ownKeep (fun k hka => hk k (List.mem_cons_of_mem _ (hin k hka)) (fun e => hg (e ▸ hin k hka)) (flatten_apart (List.nodup_cons.1 hn).2 hjF ha hka)) hown)
    have sub1 : ∀ k, k ∈ (Fs.take j).flatten → k ∈ Fs.flatten := fun k hk => by
      obtain ⟨a, ha, hka⟩ := List.mem_flatten.1 hk; exact List.mem_flatten.2 ⟨a, List.mem_of_mem_take ha, hka⟩
    have sub2 : ∀ k, k ∈ (Fs.drop (j + 1)).flatten → k ∈ Fs.flatten := fun k hk => by
      obtain ⟨a, ha, hka⟩ := List.mem_flatten.1 hk; exact List.mem_flatten.2 ⟨a, List.mem_of_mem_drop ha, hka⟩
    have hfl := flatten_set hjF Fx
    refine ⟨g :: (Fs.set j Fx).flatten, ⟨csl.set j cs', Fs.set j Fx, ?_, h3, rfl, ?_⟩, fun k hk => ?_⟩
    · rw [flatten_set hjc, List.length_set]; exact hr
    · rw [List.nodup_cons]
      have hfo := flatten_at hjF
      have hn2 := (List.nodup_cons.1 hn).2
      rw [hfo, List.nodup_append, List.nodup_append] at hn2
      obtain ⟨⟨a1, a2, a3⟩, b2, b3⟩ := hn2
      refine ⟨fun hm => ?_, ?_⟩
      · rw [hfl] at hm
        rcases List.mem_append.1 hm with hm | hm
        · rcases List.mem_append.1 hm with hm | hm
          · exact hg (sub1 g hm)
          · rcases hd g hm with hm | hm
            · exact hg (hmem g hm)
            · exact hm (List.mem_cons_self ..)
        · exact hg (sub2 g hm)
      · rw [hfl, List.nodup_append, List.nodup_append]
        refine ⟨⟨a1, R.ownNodup ho, fun u hu v hv e => ?_⟩, b2, fun u hu v hv e => ?_⟩
        · subst e
          rcases hd u hv with hm | hm
          · exact a3 u hu u hm rfl
          · exact hm (List.mem_cons_of_mem _ (sub1 u hu))
        · subst e
          rcases List.mem_append.1 hu with hu | hu
          · exact b3 u (List.mem_append_left _ hu) u hv rfl
          · rcases hd u hu with hm | hm
            · exact b3 u (List.mem_append_right _ hm) u hv rfl
            · exact hm (List.mem_cons_of_mem _ (sub2 u hv))
    · rcases List.mem_cons.1 hk with rfl | hk
      · exact Or.inl (List.mem_cons_self ..)
      · rw [hfl] at hk
        rcases List.mem_append.1 hk with hk | hk
        · rcases List.mem_append.1 hk with hk | hk
          · exact Or.inl (List.mem_cons_of_mem _ (sub1 k hk))
          · exact Or.inr hk
        · exact Or.inl (List.mem_cons_of_mem _ (sub2 k hk))
/-- A shorter piece of an owned slice, from its head on. -/
theorem OwnSl.cut {α : Type} {R : Rp α} {w : World} {e : TypeId} {F : List Nat} {g n c : Nat} {l : List α} (h : OwnSl R w e F (.slice (some ⟨g, 0, none⟩) n c) l) (m : Nat) (hm : m ≤ l.length) :
    ∃ F', OwnSl R w e F' (.slice (some ⟨g, 0, none⟩) m c) (l.take m) ∧ ∀ k, k ∈ F' → k ∈ F := by
  obtain ⟨csl, Fs, h1, h2, rfl, hn⟩ := h
  have hl := h2.len
  have hcs := all3_len h2
  have hlm : (l.take m).length = m := by rw [List.length_take]; omega
  have h3 : All3 (R.own w) (Fs.take m) (csl.take m) (l.take m) := by
    have : ∀ (m : Nat) (xs : List (List Nat)) (ys : List (List Value)) (zs : List α), All3 (R.own w) xs ys zs → All3 (R.own w) (xs.take m) (ys.take m) (zs.take m) := by
      intro m
      induction m with
      | zero => intro xs ys zs _; simp [All3]
      | succ m ih =>
        intro xs ys zs h
        cases xs <;> cases ys <;> cases zs <;> first | exact h.elim | exact h | exact ⟨h.1, ih _ _ _ h.2⟩
    exact this m _ _ _ h2
  have hsub : ∀ k, k ∈ (Fs.take m).flatten → k ∈ Fs.flatten := fun k hk => by
    obtain ⟨a, ha, hka⟩ := List.mem_flatten.1 hk; exact List.mem_flatten.2 ⟨a, List.mem_of_mem_take ha, hka⟩
  refine ⟨g :: (Fs.take m).flatten, ⟨csl.take m, Fs.take m, ?_, h3, rfl, ?_⟩, fun k hk => ?_⟩
  · rw [hlm]
    rcases h1.2 with ⟨h0, _⟩ | ⟨g', cap, cur, h0, hb, hg, hnc, hcm, hsz, htk⟩
    · simp at h0
    · simp only [Value.slice.injEq, Option.some.injEq, Addr.mk.injEq, and_true, true_and] at h0
      obtain ⟨rfl, h0, rfl⟩ := h0
      have hfl : (csl.take m).flatten = csl.flatten.take (m * R.size) := by
        have e1 : csl.flatten = (csl.take m).flatten ++ (csl.drop m).flatten := by rw [← List.flatten_append, List.take_append_drop]
        have e2 : (csl.take m).flatten.length = m * R.size := by rw [flatten_len (s := R.size) (fun x hx => hcs x (List.mem_of_mem_take hx)), List.length_take, Nat.min_eq_left (by omega)]
        rw [e1, ← e2, List.take_left]
      refine ⟨?_, Or.inr ⟨g, c, cur, rfl, hb, hg, by omega, hcm, hsz, ?_⟩⟩
      · rw [flatten_len (s := R.size) (fun x hx => hcs x (List.mem_of_mem_take hx)), List.length_take, Nat.min_eq_left (by omega)]
      · rw [hfl, ← htk, List.take_take, Nat.min_eq_left]
        exact Nat.mul_le_mul_right _ hm
  · have hn' := List.nodup_cons.1 (show (g :: Fs.flatten).Nodup from hn)
    refine List.nodup_cons.2 ⟨fun hx => hn'.1 (hsub g hx), ?_⟩
    have := hn'.2
    rw [← List.take_append_drop m Fs, List.flatten_append, List.nodup_append] at this
    exact this.1
  · show k ∈ g :: Fs.flatten
    rcases List.mem_cons.1 hk with rfl | hk
    · exact List.mem_cons_self ..
    · exact List.mem_cons_of_mem _ (hsub k hk)
/-- What does not turn while a machine runs. -/
structure Cfg where
  B : Nat
  M : Nat
  T : TypeId
  ax : Option Addr
  nx : Nat
  cx : Nat
  x : Image
  ai : Option Addr
  ni : Nat
  ci : Nat
  ins : List Int
  most : Int
  w0 : World
  /-- Blocks that the machine does not hold. -/
  D : List Nat
/-- The machine's ten cells. -/
def Cfg.cells (C : Cfg) (vf vt : Value) (used code val made : Int) (vn : Value) : Obj :=
  .cells #[.slice C.ax C.nx C.cx, .slice C.ai C.ni C.ci, .int .i64 C.most, vf, vt, .int .i64 used, .int .i64 code, .int .i64 val, .int .i64 made, vn] C.T
structure MSt (C : Cfg) (w : World) (vf : Value) (s : MS) (Ff Ft Fn : List Nat) (vt vn : Value) : Prop where
  blk : w.heap[C.M]? = some (C.cells vf vt (s.used : Int) s.code s.val s.made vn)
  frs : OwnSl FrameR w 74 Ff vf s.fs.reverse
  tr : OwnSl intR w 3 Ft vt s.tr
  notes : OwnSl noteR w 97 Fn vn s.notes
  nd : (C.M :: (Ff ++ (Ft ++ Fn))).Nodup
  low : ∀ k, k ∈ C.M :: (Ff ++ (Ft ++ Fn)) → C.B ≤ k
  xs : Sl CodeR w 0 C.B C.ax C.nx C.cx C.x
  ins : Sl intR w 0 C.B C.ai C.ni C.ci C.ins
  old : Below C.B C.w0 w
  le : C.B ≤ w.heap.size
  ap : ∀ k, k ∈ C.D → k < w.heap.size ∧ k ∉ C.M :: (Ff ++ (Ft ++ Fn))
section
variable {C : Cfg} {w w' : World} {vf vt vn : Value} {s : MS} {Ff Ft Fn : List Nat}
theorem below_tr {a b c : World} {B : Nat} (h : Below B a b) (k : Below B b c) : Below B a c :=
  ⟨k.os.trans h.os, k.tape.trans h.tape, k.output.trans h.output, Nat.le_trans h.size k.size, fun i hi => (k.block i hi).trans (h.block i hi)⟩
theorem fr_below {G : List Nat} {a b : World} {B : Nat} (h : Fr G a b) (hB : B ≤ a.heap.size) (hG : ∀ k, k ∈ G → B ≤ k) : Below B a b :=
  ⟨h.os, h.tape, h.output, h.size, fun k hk => h.block k (by omega) (fun hx => by have := hG k hx; omega)⟩
theorem MSt.ltM (h : MSt C w vf s Ff Ft Fn vt vn) : C.M < w.heap.size := blk_size h.blk
theorem MSt.ndF (h : MSt C w vf s Ff Ft Fn vt vn) : (∀ k, k ∈ Ff → k ≠ C.M ∧ k ∉ Ft ∧ k ∉ Fn) ∧ (∀ k, k ∈ Ft → k ≠ C.M ∧ k ∉ Ff ∧ k ∉ Fn) ∧ (∀ k, k ∈ Fn → k ≠ C.M ∧ k ∉ Ff ∧ k ∉ Ft) := by
  have hn := h.nd
  rw [List.nodup_cons, List.nodup_append, List.nodup_append] at hn
  obtain ⟨h0, h1, ⟨h2, h3, h4⟩, h5⟩ := hn
  simp only [List.mem_append, not_or] at h0
  refine ⟨fun k hk => ⟨fun e => h0.1 (e ▸ hk), fun h => h5 k hk k (List.mem_append_left _ h) rfl, fun h => h5 k hk k (List.mem_append_right _ h) rfl⟩,
    fun k hk => ⟨fun e => h0.2.1 (e ▸ hk), fun h => h5 k h k (List.mem_append_left _ hk) rfl, fun h => h4 k hk k h rfl⟩,
    fun k hk => ⟨fun e => h0.2.2 (e ▸ hk), fun h => h5 k h k (List.mem_append_right _ hk) rfl, fun h => h4 k h k hk rfl⟩⟩
theorem MSt.keep (h : MSt C w vf s Ff Ft Fn vt vn) (hb : Below w.heap.size w w') : MSt C w' vf s Ff Ft Fn vt vn :=
  ⟨below_at hb h.ltM h.blk, h.frs.below hb, h.tr.below hb, h.notes.below hb, h.nd, h.low, h.xs.below hb h.le, h.ins.below hb h.le, below_tr h.old (hb.mono h.le), Nat.le_trans h.le hb.size, fun k hk => ⟨Nat.lt_of_lt_of_le (h.ap k hk).1 hb.size, (h.ap k hk).2⟩⟩
/-- What is common to all stores. -/
theorem MSt.base (h : MSt C w vf s Ff Ft Fn vt vn) {G : List Nat} (hf : Fr G w w') (hG : ∀ k, k ∈ G → C.B ≤ k) :
    Sl CodeR w' 0 C.B C.ax C.nx C.cx C.x ∧ Sl intR w' 0 C.B C.ai C.ni C.ci C.ins ∧ Below C.B C.w0 w' ∧ C.B ≤ w'.heap.size :=
  have hb := fr_below hf h.le hG
  ⟨h.xs.below hb (Nat.le_refl _), h.ins.below hb (Nat.le_refl _), below_tr h.old hb, Nat.le_trans h.le hf.size⟩
theorem nodup3 {M : Nat} {A B C A' : List Nat} {z : Nat} (h : (M :: (A ++ (B ++ C))).Nodup) (hz : ∀ k, k ∈ M :: (A ++ (B ++ C)) → k < z) (nA : A'.Nodup) (hA : ∀ k, k ∈ A' → k ∈ A ∨ z ≤ k) : (M :: (A' ++ (B ++ C))).Nodup := by
  rw [List.nodup_cons, List.nodup_append] at h ⊢
  obtain ⟨h0, h1, h2, h3⟩ := h
  have lt : ∀ k, k ∈ B ++ C → k < z := fun k hk => hz k (List.mem_cons_of_mem _ (List.mem_append_right _ hk))
  refine ⟨fun hm => ?_, nA, h2, fun a ha b hb e => ?_⟩
  · rcases List.mem_append.1 hm with hm | hm
    · rcases hA M hm with hm | hm
      · exact h0 (List.mem_append_left _ hm)
      · have := hz M (List.mem_cons_self ..); omega
    · exact h0 (List.mem_append_right _ hm)
  · subst e
    rcases hA a ha with hm | hm
    · exact h3 a hm a hb rfl
    · have := lt a hb; omega
theorem MSt.lt (h : MSt C w vf s Ff Ft Fn vt vn) : ∀ k, k ∈ C.M :: (Ff ++ (Ft ++ Fn)) → k < w.heap.size := fun k hk => by
  rcases List.mem_cons.1 hk with rfl | hk
  · exact h.ltM
  · rcases List.mem_append.1 hk with hk | hk
    · exact h.frs.lt k hk
    · rcases List.mem_append.1 hk with hk | hk
      · exact h.tr.lt k hk
      · exact h.notes.lt k hk
/-- The frames are put anew; the machine's own cells too. -/
theorem MSt.putF (h : MSt C w vf s Ff Ft Fn vt vn) {vf' : Value} {Ff' : List Nat} {fs' : List Frame} {used' : Nat} {code' val' made' : Int} (hf : Fr (C.M :: Ff) w w') (hb : w'.heap[C.M]? = some (C.cells vf' vt (used' : Int) code' val' made' vn))
    (ho : OwnSl FrameR w' 74 Ff' vf' fs'.reverse) (hF : ∀ k, k ∈ Ff' → k ∈ Ff ∨ w.heap.size ≤ k) : MSt C w' vf' { s with fs := fs', used := used', code := code', val := val', made := made' } Ff' Ft Fn vt vn := by
  obtain ⟨d1, d2, d3⟩ := h.ndF
  have hl : ∀ k, k ∈ C.M :: (Ff' ++ (Ft ++ Fn)) → C.B ≤ k := fun k hk => by
    rcases List.mem_cons.1 hk with rfl | hk
    · exact h.low _ (List.mem_cons_self ..)
    · rcases List.mem_append.1 hk with hk | hk
      · rcases hF k hk with hk | hk
        · exact h.low _ (List.mem_cons_of_mem _ (List.mem_append_left _ hk))
        · have := h.le; omega
      · exact h.low _ (List.mem_cons_of_mem _ (List.mem_append_right _ hk))
  have hap : ∀ k, k ∈ C.D → k < w'.heap.size ∧ k ∉ C.M :: (Ff' ++ (Ft ++ Fn)) := fun k hk => by
    obtain ⟨a1, a2⟩ := h.ap k hk
    simp only [List.mem_cons, List.mem_append, not_or] at a2 ⊢
    refine ⟨Nat.lt_of_lt_of_le a1 hf.size, a2.1, (fun hm => by rcases hF k hm with hm | hm; exact a2.2.1 hm; omega), a2.2.2⟩
  obtain ⟨b1, b2, b3, b4⟩ := h.base hf (fun k hk => by
    rcases List.mem_cons.1 hk with rfl | hk
    · exact h.low _ (List.mem_cons_self ..)
    · exact h.low _ (List.mem_cons_of_mem _ (List.mem_append_left _ hk)))
  exact ⟨hb, ho, h.tr.fr hf (fun k hk hx => by rcases List.mem_cons.1 hx with hx | hx; exact (d2 k hk).1 hx; exact (d2 k hk).2.1 hx), h.notes.fr hf (fun k hk hx => by rcases List.mem_cons.1 hx with hx | hx; exact (d3 k hk).1 hx; exact (d3 k hk).2.1 hx), nodup3 h.nd h.lt ho.nodup hF, hl, b1, b2, b3, b4, hap⟩
/-- The trace is put anew. -/
theorem MSt.putT (h : MSt C w vf s Ff Ft Fn vt vn) {vt' : Value} {Ft' : List Nat} {tr' : List Int} (hf : Fr (C.M :: Ft) w w') (hb : w'.heap[C.M]? = some (C.cells vf vt' (s.used : Int) s.code s.val s.made vn))
    (ho : OwnSl intR w' 3 Ft' vt' tr') (hF : ∀ k, k ∈ Ft' → k ∈ Ft ∨ w.heap.size ≤ k) : MSt C w' vf { s with tr := tr' } Ff Ft' Fn vt' vn := by
  obtain ⟨d1, d2, d3⟩ := h.ndF
  have hl : ∀ k, k ∈ C.M :: (Ff ++ (Ft' ++ Fn)) → C.B ≤ k := fun k hk => by
    rcases List.mem_cons.1 hk with rfl | hk
    · exact h.low _ (List.mem_cons_self ..)
    · rcases List.mem_append.1 hk with hk | hk
      · exact h.low _ (List.mem_cons_of_mem _ (List.mem_append_left _ hk))
      · rcases List.mem_append.1 hk with hk | hk
        · rcases hF k hk with hk | hk
          · exact h.low _ (List.mem_cons_of_mem _ (List.mem_append_right _ (List.mem_append_left _ hk)))
          · have := h.le; omega
        · exact h.low _ (List.mem_cons_of_mem _ (List.mem_append_right _ (List.mem_append_right _ hk)))
  have hap : ∀ k, k ∈ C.D → k < w'.heap.size ∧ k ∉ C.M :: (Ff ++ (Ft' ++ Fn)) := fun k hk => by
    obtain ⟨a1, a2⟩ := h.ap k hk
    simp only [List.mem_cons, List.mem_append, not_or] at a2 ⊢
    refine ⟨Nat.lt_of_lt_of_le a1 hf.size, a2.1, a2.2.1, (fun hm => by rcases hF k hm with hm | hm; exact a2.2.2.1 hm; omega), a2.2.2.2⟩
  obtain ⟨b1, b2, b3, b4⟩ := h.base hf (fun k hk => by
    rcases List.mem_cons.1 hk with rfl | hk
    · exact h.low _ (List.mem_cons_self ..)
    · exact h.low _ (List.mem_cons_of_mem _ (List.mem_append_right _ (List.mem_append_left _ hk))))
  refine ⟨hb, h.frs.fr hf (fun k hk hx => by rcases List.mem_cons.1 hx with hx | hx; exact (d1 k hk).1 hx; exact (d1 k hk).2.1 hx), ho, h.notes.fr hf (fun k hk hx => by rcases List.mem_cons.1 hx with hx | hx; exact (d3 k hk).1 hx; exact (d3 k hk).2.2 hx), ?_, hl, b1, b2, b3, b4, hap⟩
  have hp : (C.M :: (Ff ++ (Ft ++ Fn))).Perm (C.M :: (Ft ++ (Ff ++ Fn))) := List.Perm.cons _ (by rw [← List.append_assoc, ← List.append_assoc]; exact List.Perm.append_right _ List.perm_append_comm)
  have hp2 : (C.M :: (Ft' ++ (Ff ++ Fn))).Perm (C.M :: (Ff ++ (Ft' ++ Fn))) := List.Perm.cons _ (by rw [← List.append_assoc, ← List.append_assoc]; exact List.Perm.append_right _ List.perm_append_comm)
  exact hp2.nodup_iff.1 (nodup3 (hp.nodup_iff.1 h.nd) (fun k hk => h.lt k (hp.mem_iff.2 hk)) ho.nodup hF)
/-- The notes are put anew. -/
theorem MSt.putN (h : MSt C w vf s Ff Ft Fn vt vn) {vn' : Value} {Fn' : List Nat} {ns' : List Note} (hf : Fr (C.M :: Fn) w w') (hb : w'.heap[C.M]? = some (C.cells vf vt (s.used : Int) s.code s.val s.made vn'))
    (ho : OwnSl noteR w' 97 Fn' vn' ns') (hF : ∀ k, k ∈ Fn' → k ∈ Fn ∨ w.heap.size ≤ k) : MSt C w' vf { s with notes := ns' } Ff Ft Fn' vt vn' := by
  obtain ⟨d1, d2, d3⟩ := h.ndF
  have hl : ∀ k, k ∈ C.M :: (Ff ++ (Ft ++ Fn')) → C.B ≤ k := fun k hk => by
    rcases List.mem_cons.1 hk with rfl | hk
    · exact h.low _ (List.mem_cons_self ..)
    · rcases List.mem_append.1 hk with hk | hk
      · exact h.low _ (List.mem_cons_of_mem _ (List.mem_append_left _ hk))
      · rcases List.mem_append.1 hk with hk | hk
        · exact h.low _ (List.mem_cons_of_mem _ (List.mem_append_right _ (List.mem_append_left _ hk)))
        · rcases hF k hk with hk | hk
          · exact h.low _ (List.mem_cons_of_mem _ (List.mem_append_right _ (List.mem_append_right _ hk)))
          · have := h.le; omega
  have hap : ∀ k, k ∈ C.D → k < w'.heap.size ∧ k ∉ C.M :: (Ff ++ (Ft ++ Fn')) := fun k hk => by
    obtain ⟨a1, a2⟩ := h.ap k hk
    simp only [List.mem_cons, List.mem_append, not_or] at a2 ⊢
    refine ⟨Nat.lt_of_lt_of_le a1 hf.size, a2.1, a2.2.1, a2.2.2.1, (fun hm => by rcases hF k hm with hm | hm; exact a2.2.2.2 hm; omega)⟩
  obtain ⟨b1, b2, b3, b4⟩ := h.base hf (fun k hk => by
    rcases List.mem_cons.1 hk with rfl | hk
    · exact h.low _ (List.mem_cons_self ..)
    · exact h.low _ (List.mem_cons_of_mem _ (List.mem_append_right _ (List.mem_append_right _ hk))))
  refine ⟨hb, h.frs.fr hf (fun k hk hx => by rcases List.mem_cons.1 hx with hx | hx; exact (d1 k hk).1 hx; exact (d1 k hk).2.2 hx), h.tr.fr hf (fun k hk hx => by rcases List.mem_cons.1 hx with hx | hx; exact (d2 k hk).1 hx; exact (d2 k hk).2.2 hx), ho, ?_, hl, b1, b2, b3, b4, hap⟩
  have hp : (C.M :: (Ff ++ (Ft ++ Fn))).Perm (C.M :: (Fn ++ (Ff ++ Ft))) := List.Perm.cons _ (by rw [← List.append_assoc]; exact List.perm_append_comm)
  have hp2 : (C.M :: (Fn' ++ (Ff ++ Ft))).Perm (C.M :: (Ff ++ (Ft ++ Fn'))) := List.Perm.cons _ (by rw [← List.append_assoc Ff]; exact List.perm_append_comm)
  exact hp2.nodup_iff.1 (nodup3 (hp.nodup_iff.1 h.nd) (fun k hk => h.lt k (hp.mem_iff.2 hk)) ho.nodup hF)
/-- The machine, whatever blocks it holds. -/
def MM (C : Cfg) (w : World) (vf : Value) (s : MS) : Prop := ∃ Ff Ft Fn vt vn, MSt C w vf s Ff Ft Fn vt vn
theorem MM.keep (h : MM C w vf s) (hb : Below w.heap.size w w') : MM C w' vf s := by
  obtain ⟨Ff, Ft, Fn, vt, vn, h⟩ := h
  exact ⟨Ff, Ft, Fn, vt, vn, h.keep hb⟩
end
end Go.Proofs.YtgdeclmciflmpaaGreat

/- The machine in memory, opened: the cells of one frame, and what each kind of store does. No program. -/
set_option linter.unusedVariables false
set_option linter.unusedSimpArgs false
set_option maxRecDepth 100000
namespace Go.Proofs.YtgdeclmciflmpaaGreat
open Go.RowKit
/-- One datum more behind an owned slice. -/
theorem OwnSl.app {α : Type} {R : Rp α} {w : World} {e : TypeId} {F : List Nat} {v : Value} {l : List α} (h : OwnSl R w e F v l) :
    ∃ xs, w.ownsRow 0 e R.size v l.length xs ∧ (∀ g, v.ownBlock = some g → g ∈ F) ∧
      ∀ w' v' cs x Fx, w'.ownsRow 0 e R.size v' (l.length + 1) (xs ++ cs) → R.own w' Fx cs x → (∀ k, k ∈ Fx → k ∉ F ∧ v'.ownBlock ≠ some k) → (v'.ownBlock = v.ownBlock ∨ ∃ g, v'.ownBlock = some g ∧ w.heap.size ≤ g) →
        (∀ k, k ∈ F → v.ownBlock ≠ some k → w'.heap[k]? = w.heap[k]?) → ∃ F', OwnSl R w' e F' v' (l ++ [x]) ∧ ∀ k, k ∈ F' → k ∈ F ∨ k ∈ Fx ∨ w.heap.size ≤ k := by
  have hlt := h.lt
  obtain ⟨csl, Fs, h1, h2, rfl, hn⟩ := h
  refine ⟨csl.flatten, h1, fun g hg => by rw [hg]; simp, fun w' v' cs x Fx hr ho hd hv hk => ?_⟩
  have hl := h2.len
  rw [List.nodup_append] at hn
  obtain ⟨n1, n2, n3⟩ := hn
  have h3 : All3 (R.own w') Fs csl l := h2.mono fun a b c ha hown => R.ownKeep (fun k hka => by
    have hm : k ∈ Fs.flatten := List.mem_flatten.2 ⟨a, ha, hka⟩
    exact hk k (List.mem_append_right _ hm) (fun e => n3 k (by simp [e]) k hm rfl)) hown
  refine ⟨v'.ownBlock.toList ++ (Fs ++ [Fx]).flatten, ⟨csl ++ [cs], Fs ++ [Fx], by simpa using hr, h3.snoc ho, rfl, ?_⟩, fun k hk => ?_⟩
  · rw [List.nodup_append]
    refine ⟨by cases v'.ownBlock <;> simp, ?_, fun a ha b hb e => ?_⟩
    · simp only [List.flatten_append, List.flatten_cons, List.flatten_nil, List.append_nil]
      rw [List.nodup_append]
      exact ⟨n2, R.ownNodup ho, fun a ha b hb e => (hd b hb).1 (List.mem_append_right _ (e ▸ ha))⟩
    · subst e
      simp only [Option.mem_toList] at ha
      simp only [List.flatten_append, List.flatten_cons, List.flatten_nil, List.append_nil, List.mem_append] at hb
      rcases hb with hb | hb
      · rcases hv with hv | ⟨g, hv, hg⟩
        · exact n3 a (by rw [hv] at ha; simp; exact ha) a hb rfl
        · have := hlt a (List.mem_append_right _ hb)
          have : g = a := Option.some.inj (hv.symm.trans ha)
          omega
      · exact (hd a hb).2 ha
  · simp only [List.flatten_append, List.flatten_cons, List.flatten_nil, List.append_nil, List.mem_append] at hk
    rcases hk with hk | hk | hk
    · simp only [Option.mem_toList] at hk
      rcases hv with hv | ⟨g, hv, hg⟩
      · exact Or.inl (List.mem_append_left _ (by rw [hv] at hk; simp; exact hk))
      · have : g = k := Option.some.inj (hv.symm.trans hk)
        exact Or.inr (Or.inr (by omega))
    · exact Or.inl (List.mem_append_right _ hk)
    · exact Or.inr (Or.inl hk)
/-- The cells of frame j. -/
structure FV (C : Cfg) (w : World) (g j : Nat) (f : Frame) (v3 v4 v5 : Value) : Prop where
  c0 : w.cell? ⟨g, j * 11, none⟩ = some (.int .i64 f.1)
  c1 : w.cell? ⟨g, j * 11 + 1, none⟩ = some (.int .i64 f.2.1)
  c2 : w.cell? ⟨g, j * 11 + 2, none⟩ = some (.int .i64 f.2.2.1)
  c3 : w.cell? ⟨g, j * 11 + 3, none⟩ = some v3
  c4 : w.cell? ⟨g, j * 11 + 4, none⟩ = some v4
  c5 : w.cell? ⟨g, j * 11 + 5, none⟩ = some v5
  c6 : w.cell? ⟨g, j * 11 + 6, none⟩ = some (.int .i64 (resOf f))
  c7 : w.cell? ⟨g, j * 11 + 7, none⟩ = some (.int .i64 (modeOf f))
  c8 : w.cell? ⟨g, j * 11 + 8, none⟩ = some (.int .i64 (valOf f))
  c9 : w.cell? ⟨g, j * 11 + 9, none⟩ = some (.int .i64 (baseOf f))
  c10 : w.cell? ⟨g, j * 11 + 10, none⟩ = some (.bool (frOff f))
  fz : ∀ i, w.frozen? ⟨g, i, none⟩ = false
  gM : g ≠ C.M
  gB : C.B ≤ g
  lt : g < w.heap.size
def frCells (f : Frame) (v3 v4 v5 : Value) : List Value := [.int .i64 f.1, .int .i64 f.2.1, .int .i64 f.2.2.1, v3, v4, v5, .int .i64 (resOf f), .int .i64 (modeOf f), .int .i64 (valOf f), .int .i64 (baseOf f), .bool (frOff f)]
def FrI (f : Frame) : Prop := I64 f.1 ∧ I64 f.2.1 ∧ I64 f.2.2.1 ∧ I64 (resOf f) ∧ I64 (modeOf f) ∧ I64 (valOf f) ∧ I64 (baseOf f)
theorem own_frCells {w : World} {F3 F4 F5 : List Nat} {f : Frame} {v3 v4 v5 : Value} (o3 : OwnSl intR w 3 F3 v3 (fPile f)) (o4 : OwnSl intR w 3 F4 v4 f.2.2.2.2.1) (o5 : OwnSl boolR w 4 F5 v5 f.2.2.2.2.2.1) (hi : FrI f) (hF : (F3 ++ (F4 ++ F5)).Nodup) :
    FrameR.own w (F3 ++ (F4 ++ F5)) (frCells f v3 v4 v5) f := by
  obtain ⟨A3, n3, c3, rfl, _⟩ := o3.form
  obtain ⟨A4, n4, c4, rfl, _⟩ := o4.form
  obtain ⟨A5, n5, c5, rfl, _⟩ := o5.form
  exact Frame_own o3 o4 o5 hi.1 hi.2.1 hi.2.2.1 hi.2.2.2.1 hi.2.2.2.2.1 hi.2.2.2.2.2.1 hi.2.2.2.2.2.2 hF
theorem own_frCells' {w : World} {F : List Nat} {cs : List Value} {f : Frame} (h : FrameR.own w F cs f) : ∃ F3 F4 F5 v3 v4 v5, cs = frCells f v3 v4 v5 ∧ F = F3 ++ (F4 ++ F5) ∧ (F3 ++ (F4 ++ F5)).Nodup ∧ FrI f ∧ OwnSl intR w 3 F3 v3 (fPile f) ∧ OwnSl intR w 3 F4 v4 f.2.2.2.2.1 ∧ OwnSl boolR w 4 F5 v5 f.2.2.2.2.2.1 := by
  obtain ⟨x0, x1, x2, A3, n3, c3, s3, A4, n4, c4, s4, A5, n5, c5, s5, x6, x7, x8, x9, y10, F3, F4, F5, rfl, rfl, rfl, hn, i0, i1, i2, o3, o4, o5, i6, i7, i8, i9⟩ := Frame_ownx h
  exact ⟨F3, F4, F5, _, _, _, rfl, rfl, hn, ⟨i0, i1, i2, i6, i7, i8, i9⟩, o3, o4, o5⟩
section
variable {C : Cfg} {w w' : World} {vf vt vn : Value} {s : MS} {Ff Ft Fn : List Nat}
/-- A machine with one frame opened. -/
structure MO (C : Cfg) (w : World) (s : MS) (j g n c : Nat) (f : Frame) (v3 v4 v5 : Value) (F3 F4 F5 : List Nat) (pre post : List Value) : Prop where
  row : w.ownsRow 0 74 11 (.slice (some ⟨g, 0, none⟩) n c) n (pre ++ frCells f v3 v4 v5 ++ post)
  pl : pre.length = j * 11
  len : n = s.fs.length
  o3 : OwnSl intR w 3 F3 v3 (fPile f)
  o4 : OwnSl intR w 3 F4 v4 f.2.2.2.2.1
  o5 : OwnSl boolR w 4 F5 v5 f.2.2.2.2.2.1
  i : FrI f
  nd : (F3 ++ (F4 ++ F5)).Nodup
  low : ∀ k, k ∈ g :: (F3 ++ (F4 ++ F5)) → C.B ≤ k ∧ k < w.heap.size ∧ k ≠ C.M
  ng : g ∉ F3 ++ (F4 ++ F5)
  put : ∀ w' f' v3' v4' v5' F3' F4' F5' fs', OwnSl intR w' 3 F3' v3' (fPile f') → OwnSl intR w' 3 F4' v4' f'.2.2.2.2.1 → OwnSl boolR w' 4 F5' v5' f'.2.2.2.2.2.1 → FrI f' → (F3' ++ (F4' ++ F5')).Nodup →
    (∀ k, k ∈ F3' ++ (F4' ++ F5') → k ∈ F3 ++ (F4 ++ F5) ∨ w.heap.size ≤ k) → Fr (g :: (F3 ++ (F4 ++ F5))) w w' →
    w'.ownsRow 0 74 11 (.slice (some ⟨g, 0, none⟩) n c) n (pre ++ frCells f' v3' v4' v5' ++ post) →
    fs'.reverse = s.fs.reverse.set j f' → MM C w' (.slice (some ⟨g, 0, none⟩) n c) { s with fs := fs' }
theorem MM.op (h : MM C w vf s) {j : Nat} {f : Frame} (hj : s.fs.reverse[j]? = some f) : ∃ g n c v3 v4 v5 F3 F4 F5 pre post, vf = .slice (some ⟨g, 0, none⟩) n c ∧ MO C w s j g n c f v3 v4 v5 F3 F4 F5 pre post := by
  obtain ⟨Ff, Ft, Fn, vt, vn, h⟩ := h
  obtain ⟨A, n, c, rfl, hn⟩ := h.frs.form
  obtain ⟨hj1, hj2⟩ := List.getElem?_eq_some_iff.1 hj
  obtain ⟨g, pre, cs, post, Fj, rfl, hn', hpl, hown, hrow, hg, hgj, hsub, put⟩ := h.frs.focus3 (by decide) hj1
  rw [hj2] at hown
  obtain ⟨F3, F4, F5, v3, v4, v5, rfl, rfl, hnd, hi, o3, o4, o5⟩ := own_frCells' hown
  obtain ⟨d1, _, _⟩ := h.ndF
  have hlow : ∀ k, k ∈ g :: (F3 ++ (F4 ++ F5)) → C.B ≤ k ∧ k < w.heap.size ∧ k ≠ C.M := fun k hk => by
    have hm : k ∈ Ff := by
      rcases List.mem_cons.1 hk with rfl | hk
      · exact hg
      · exact hsub k hk
    exact ⟨h.low k (List.mem_cons_of_mem _ (List.mem_append_left _ hm)), h.lt k (List.mem_cons_of_mem _ (List.mem_append_left _ hm)), (d1 k hm).1⟩
  refine ⟨g, n, c, v3, v4, v5, F3, F4, F5, pre, post, rfl, hrow, hpl, by rw [hn', List.length_reverse], o3, o4, o5, hi, hnd, hlow, hgj, ?_⟩
  intro w' f' v3' v4' v5' F3' F4' F5' fs' p3 p4 p5 hi' hnd' hF' hfr hrow' hfs
  obtain ⟨F', ho', hF2⟩ := put w' _ f' _ (own_frCells p3 p4 p5 hi' hnd') (fun k hk => by
    rcases hF' k hk with hk | hk
    · exact Or.inl hk
    · exact Or.inr fun hm => by have := h.frs.lt k hm; omega) hrow' (fun k hk h1 h2 => hfr.block k (h.frs.lt k hk) (by
      intro hm
      rcases List.mem_cons.1 hm with hm | hm
      · exact h1 hm
      · exact h2 hm))
  rw [← hfs] at ho'
  have hfrM : Fr (C.M :: Ff) w w' := hfr.more fun k hk => by
    rcases List.mem_cons.1 hk with rfl | hk
    · exact List.mem_cons_of_mem _ hg
    · exact List.mem_cons_of_mem _ (hsub k hk)
  have hbM : w'.heap[C.M]? = some (C.cells (.slice (some ⟨g, 0, none⟩) n c) vt (s.used : Int) s.code s.val s.made vn) := by
    rw [hfr.block _ h.ltM (fun hm => (hlow _ hm).2.2 rfl)]; exact h.blk
  exact ⟨F', Ft, Fn, vt, vn, h.putF (used' := s.used) (code' := s.code) (val' := s.val) (made' := s.made) hfrM hbM ho' (fun k hk => by
    rcases hF2 k hk with hk | hk
    · exact Or.inl hk
    · rcases hF' k hk with hk | hk
      · exact Or.inl (hsub k hk)
      · exact Or.inr hk)⟩
section
variable {j g n c : Nat} {f : Frame} {v3 v4 v5 : Value} {F3 F4 F5 : List Nat} {pre post : List Value}
theorem MO.fv (h : MO C w s j g n c f v3 v4 v5 F3 F4 F5 pre post) : FV C w g j f v3 v4 v5 := by
  have hc := fun i (hi : i < 11) => rowCell h.row h.pl (i := i) (show i < (frCells f v3 v4 v5).length from hi)
  have hl := h.low g (List.mem_cons_self ..)
  exact ⟨hc 0 (by decide), hc 1 (by decide), hc 2 (by decide), hc 3 (by decide), hc 4 (by decide), hc 5 (by decide), hc 6 (by decide), hc 7 (by decide), hc 8 (by decide), hc 9 (by decide), hc 10 (by decide), fun i => h.row.frozenAt i, hl.2.2, hl.1, hl.2.1⟩
/-- One cell of the frame is put; its slices own what they owned, or less. -/
theorem MO.cell (h : MO C w s j g n c f v3 v4 v5 F3 F4 F5 pre post) (i : Nat) (hi : i < 11) (v : Value) {f' : Frame} {v3' : Value} {F3' : List Nat} (e : (frCells f v3 v4 v5).set i v = frCells f' v3' v4 v5) (e4 : f'.2.2.2.2.1 = f.2.2.2.2.1) (e5 : f'.2.2.2.2.2.1 = f.2.2.2.2.2.1)
    (o3 : OwnSl intR w 3 F3' v3' (fPile f')) (hF : ∀ k, k ∈ F3' → k ∈ F3) (hI : FrI f') {fs' : List Frame} (hfs : fs'.reverse = s.fs.reverse.set j f') : MM C (w.setCell ⟨g, j * 11 + i, none⟩ v) (.slice (some ⟨g, 0, none⟩) n c) { s with fs := fs' } := by
  have hfr : Fr [g] w (w.setCell ⟨g, j * 11 + i, none⟩ v) := Fr.setCell (p := ⟨g, j * 11 + i, none⟩) (Fr.refl [g] w) (List.mem_singleton.2 rfl) v
  have hr := rowSet h.row h.pl (i := i) (show i < (frCells f v3 v4 v5).length from hi) v
  rw [e] at hr
  have ng := h.ng
  simp only [List.mem_append, not_or] at ng
  have hnd := h.nd
  rw [List.nodup_append] at hnd
  refine h.put _ f' v3' v4 v5 F3' F4 F5 fs' (o3.fr hfr fun k hk hx => ?_) (e4 ▸ h.o4.fr hfr fun k hk hx => ?_) (e5 ▸ h.o5.fr hfr fun k hk hx => ?_) hI ?_ (fun k hk => Or.inl ?_) (hfr.more fun k hk => ?_) hr hfs
  · rw [List.mem_singleton.1 hx] at hk; exact ng.1 (hF _ hk)
  · rw [List.mem_singleton.1 hx] at hk; exact ng.2.1 hk
  · rw [List.mem_singleton.1 hx] at hk; exact ng.2.2 hk
  · rw [List.nodup_append]
    exact ⟨o3.nodup, hnd.2.1, fun a ha b hb => hnd.2.2 a (hF a ha) b hb⟩
  · rcases List.mem_append.1 hk with hk | hk
    · exact List.mem_append_left _ (hF k hk)
    · exact List.mem_append_right _ hk
  · rw [List.mem_singleton.1 hk]; exact List.mem_cons_self ..
end
/-! ### stores to a frame -/
section
variable {j g n c : Nat} {f : Frame}
theorem MM.opg (h : MM C w (.slice (some ⟨g, 0, none⟩) n c) s) (hj : s.fs.reverse[j]? = some f) : ∃ v3 v4 v5 F3 F4 F5 pre post, MO C w s j g n c f v3 v4 v5 F3 F4 F5 pre post := by
  obtain ⟨g', n', c', v3, v4, v5, F3, F4, F5, pre, post, e, h⟩ := h.op hj
  simp only [Value.slice.injEq, Option.some.injEq, Addr.mk.injEq, and_true, true_and] at e
  obtain ⟨rfl, rfl, rfl⟩ := e
  exact ⟨v3, v4, v5, F3, F4, F5, pre, post, h⟩
theorem MM.setAt (h : MM C w (.slice (some ⟨g, 0, none⟩) n c) s) (hj : s.fs.reverse[j]? = some f) {a : Int} (ha : I64 a) {fs' : List Frame} (hfs : fs'.reverse = s.fs.reverse.set j (fGo f a (fPile f))) :
    MM C (w.setCell ⟨g, j * 11 + 2, none⟩ (.int .i64 a)) (.slice (some ⟨g, 0, none⟩) n c) { s with fs := fs' } := by
  obtain ⟨v3, v4, v5, F3, F4, F5, pre, post, h⟩ := h.opg hj
  exact h.cell 2 (by decide) _ (f' := fGo f a (fPile f)) (v3' := v3) rfl rfl rfl h.o3 (fun _ h => h) ⟨h.i.1, h.i.2.1, ha, h.i.2.2.2⟩ hfs
theorem MM.setNil (h : MM C w (.slice (some ⟨g, 0, none⟩) n c) s) (hj : s.fs.reverse[j]? = some f) {fs' : List Frame} (hfs : fs'.reverse = s.fs.reverse.set j (fGo f f.2.2.1 [])) :
    MM C (w.setCell ⟨g, j * 11 + 3, none⟩ (.slice none 0 0)) (.slice (some ⟨g, 0, none⟩) n c) { s with fs := fs' } := by
  obtain ⟨v3, v4, v5, F3, F4, F5, pre, post, h⟩ := h.opg hj
  exact h.cell 3 (by decide) _ (f' := fGo f f.2.2.1 []) (v3' := .slice none 0 0) rfl rfl rfl (OwnSl.nil_ ..) (fun _ h => by cases h) h.i hfs
theorem MM.setRes (h : MM C w (.slice (some ⟨g, 0, none⟩) n c) s) (hj : s.fs.reverse[j]? = some f) {a : Int} (ha : I64 a) {fs' : List Frame} (hfs : fs'.reverse = s.fs.reverse.set j (fRes f a)) :
    MM C (w.setCell ⟨g, j * 11 + 6, none⟩ (.int .i64 a)) (.slice (some ⟨g, 0, none⟩) n c) { s with fs := fs' } := by
  obtain ⟨v3, v4, v5, F3, F4, F5, pre, post, h⟩ := h.opg hj
  exact h.cell 6 (by decide) _ (f' := fRes f a) (v3' := v3) rfl rfl rfl h.o3 (fun _ h => h) ⟨h.i.1, h.i.2.1, h.i.2.2.1, ha, h.i.2.2.2.2⟩ hfs
theorem MM.setMode (h : MM C w (.slice (some ⟨g, 0, none⟩) n c) s) (hj : s.fs.reverse[j]? = some f) {a : Int} (ha : I64 a) {fs' : List Frame} (hfs : fs'.reverse = s.fs.reverse.set j (fMode f a)) :
    MM C (w.setCell ⟨g, j * 11 + 7, none⟩ (.int .i64 a)) (.slice (some ⟨g, 0, none⟩) n c) { s with fs := fs' } := by
  obtain ⟨v3, v4, v5, F3, F4, F5, pre, post, h⟩ := h.opg hj
  exact h.cell 7 (by decide) _ (f' := fMode f a) (v3' := v3) rfl rfl rfl h.o3 (fun _ h => h) ⟨h.i.1, h.i.2.1, h.i.2.2.1, h.i.2.2.2.1, ha, h.i.2.2.2.2.2⟩ hfs
def fVal (f : Frame) (a : Int) : Frame := fMvb f (modeOf f) a (baseOf f)
theorem MM.setVal (h : MM C w (.slice (some ⟨g, 0, none⟩) n c) s) (hj : s.fs.reverse[j]? = some f) {a : Int} (ha : I64 a) {fs' : List Frame} (hfs : fs'.reverse = s.fs.reverse.set j (fVal f a)) :
    MM C (w.setCell ⟨g, j * 11 + 8, none⟩ (.int .i64 a)) (.slice (some ⟨g, 0, none⟩) n c) { s with fs := fs' } := by
  obtain ⟨v3, v4, v5, F3, F4, F5, pre, post, h⟩ := h.opg hj
  exact h.cell 8 (by decide) _ (f' := fVal f a) (v3' := v3) rfl rfl rfl h.o3 (fun _ h => h) ⟨h.i.1, h.i.2.1, h.i.2.2.1, h.i.2.2.2.1, h.i.2.2.2.2.1, ha, h.i.2.2.2.2.2.2⟩ hfs
def fBase (f : Frame) (a : Int) : Frame := fMvb f (modeOf f) (valOf f) a
theorem MM.setBase (h : MM C w (.slice (some ⟨g, 0, none⟩) n c) s) (hj : s.fs.reverse[j]? = some f) {a : Int} (ha : I64 a) {fs' : List Frame} (hfs : fs'.reverse = s.fs.reverse.set j (fBase f a)) :
    MM C (w.setCell ⟨g, j * 11 + 9, none⟩ (.int .i64 a)) (.slice (some ⟨g, 0, none⟩) n c) { s with fs := fs' } := by
  obtain ⟨v3, v4, v5, F3, F4, F5, pre, post, h⟩ := h.opg hj
  exact h.cell 9 (by decide) _ (f' := fBase f a) (v3' := v3) rfl rfl rfl h.o3 (fun _ h => h) ⟨h.i.1, h.i.2.1, h.i.2.2.1, h.i.2.2.2.1, h.i.2.2.2.2.1, h.i.2.2.2.2.2.1, ha⟩ hfs
/-- The pile is cut. -/
theorem MM.setCut (h : MM C w (.slice (some ⟨g, 0, none⟩) n c) s) (hj : s.fs.reverse[j]? = some f) {g3 n3 c3 m : Nat} (h3 : w.cell? ⟨g, j * 11 + 3, none⟩ = some (.slice (some ⟨g3, 0, none⟩) n3 c3)) (hm : m ≤ (fPile f).length) {fs' : List Frame} (hfs : fs'.reverse = s.fs.reverse.set j (fGo f f.2.2.1 ((fPile f).take m))) :
    MM C (w.setCell ⟨g, j * 11 + 3, none⟩ (.slice (some ⟨g3, 0, none⟩) m c3)) (.slice (some ⟨g, 0, none⟩) n c) { s with fs := fs' } := by
  obtain ⟨v3, v4, v5, F3, F4, F5, pre, post, h⟩ := h.opg hj
  have hc := h.fv.c3
  rw [h3] at hc
  injection hc with hc
  subst hc
  obtain ⟨F3', o3, hF⟩ := h.o3.cut m hm
  exact h.cell 3 (by decide) _ (f' := fGo f f.2.2.1 ((fPile f).take m)) (v3' := .slice (some ⟨g3, 0, none⟩) m c3) rfl rfl rfl o3 hF h.i hfs
end
end
end Go.Proofs.YtgdeclmciflmpaaGreat

/- The machine in memory: appends, and stores to its own cells. No program. -/
set_option linter.unusedVariables false
set_option linter.unusedSimpArgs false
set_option maxRecDepth 100000
namespace Go.Proofs.YtgdeclmciflmpaaGreat
open Go.RowKit
theorem fr_of_grown {w w' : World} {o : Option Nat} (h : w.grownBy w' o) : Fr o.toList w w' := ⟨h.os, h.tape, h.output, h.size, fun k hk hn => h.block k hk (fun e => hn (by rw [← e]; simp))⟩
theorem noteR_own {w : World} {x : Note} (h : I64 x.1 ∧ I64 x.2.1 ∧ I64 x.2.2) : noteR.own w [] [.int .i64 x.1, .int .i64 x.2.1, .int .i64 x.2.2] x := noteOwn w x.1 x.2.1 x.2.2 h.1 h.2.1 h.2.2
section
variable {C : Cfg} {w w' : World} {vf vt vn : Value} {s : MS} {Ff Ft Fn : List Nat} {j g n c : Nat} {f : Frame}
theorem MO.apart {v3 v4 v5 : Value} {F3 F4 F5 : List Nat} {pre post : List Value} (h : MO C w s j g n c f v3 v4 v5 F3 F4 F5 pre post) : F3 = v3.ownBlock.toList ∧ F4 = v4.ownBlock.toList ∧ (∀ k, k ∈ F3 → k ≠ g ∧ k ∉ F4 ∧ k ∉ F5) ∧ (∀ k, k ∈ F4 → k ≠ g ∧ k ∉ F3 ∧ k ∉ F5) ∧ (∀ k, k ∈ F5 → k ≠ g ∧ k ∉ F3 ∧ k ∉ F4) := by
  have ng := h.ng
  simp only [List.mem_append, not_or] at ng
  have hn := h.nd
  rw [List.nodup_append, List.nodup_append] at hn
  obtain ⟨n1, ⟨n2, n3, n4⟩, n5⟩ := hn
  refine ⟨own_ints_F h.o3, own_ints_F h.o4, fun k hk => ⟨fun e => ng.1 (e ▸ hk), fun h => n5 k hk k (List.mem_append_left _ h) rfl, fun h => n5 k hk k (List.mem_append_right _ h) rfl⟩,
    fun k hk => ⟨fun e => ng.2.1 (e ▸ hk), fun h => n5 k h k (List.mem_append_left _ hk) rfl, fun h => n4 k hk k h rfl⟩,
    fun k hk => ⟨fun e => ng.2.2 (e ▸ hk), fun h => n5 k h k (List.mem_append_right _ hk) rfl, fun h => n4 k h k hk rfl⟩⟩
/-- A number is put on a frame's pile. -/
theorem MM.pushed (h : MM C w (.slice (some ⟨g, 0, none⟩) n c) s) (hj : s.fs.reverse[j]? = some f) :
    ∃ v3 xs, w.cell? ⟨g, j * 11 + 3, none⟩ = some v3 ∧ w.ownsRow 0 3 1 v3 (fPile f).length xs ∧ v3.ownBlock ≠ some g ∧
      ∀ a wk v3' fs', I64 a → wk.ownsRow 0 3 1 v3' ((fPile f).length + 1) (xs ++ [.int .i64 a]) → w.grownBy wk v3.ownBlock → (v3'.ownBlock = v3.ownBlock ∨ v3'.ownBlock = some w.heap.size) →
        fs'.reverse = s.fs.reverse.set j (fGo f f.2.2.1 (fPile f ++ [a])) → MM C (wk.setCell ⟨g, j * 11 + 3, none⟩ v3') (.slice (some ⟨g, 0, none⟩) n c) { s with fs := fs' } := by
  obtain ⟨v3, v4, v5, F3, F4, F5, pre, post, h⟩ := h.opg hj
  obtain ⟨e3, e4, d3, d4, d5⟩ := h.apart
  obtain ⟨xs, hx, hb, app⟩ := h.o3.app
  refine ⟨v3, xs, h.fv.c3, hx, fun e => ?_, ?_⟩
  · exact (d3 g (by rw [e3, e]; simp)).1 rfl
  intro a wk v3' fs' ha hr hg hv hfs
  have hgk := fr_of_grown hg
  obtain ⟨F3', o3, hF3⟩ := app wk v3' [.int .i64 a] a [] hr ⟨rfl, rfl, ha⟩ (fun k hk => by cases hk) (hv.imp id fun e => ⟨_, e, Nat.le_refl _⟩) (fun k hk hn => by rw [e3] at hk; simp at hk; exact absurd hk hn)
  have hkG : ∀ k, k < w.heap.size → k ∉ F3 → wk.heap[k]? = w.heap[k]? := fun k hk hn => hgk.block k hk (by rw [← e3]; exact hn)
  have hlow := h.low
  have hF3' : ∀ k, k ∈ F3' → k ∈ F3 ∨ w.heap.size ≤ k := fun k hk => by
    rcases hF3 k hk with h | h | h
    · exact Or.inl h
    · cases h
    · exact Or.inr h
  have hng : ∀ k, k ∈ F3' → k ≠ g := fun k hk e => by
    rcases hF3' k hk with h | h
    · exact (d3 k h).1 e
    · have := (hlow g (List.mem_cons_self ..)).2.1; omega
  have hfr2 : Fr [g] wk (wk.setCell ⟨g, j * 11 + 3, none⟩ v3') := Fr.setCell (p := ⟨g, j * 11 + 3, none⟩) (Fr.refl [g] wk) (List.mem_singleton.2 rfl) v3'
  have hrow : wk.ownsRow 0 74 11 (.slice (some ⟨g, 0, none⟩) n c) n (pre ++ frCells f v3 v4 v5 ++ post) := ownsRow_keep0 h.row fun k hk => by
    simp [Value.ownBlock] at hk
    subst hk
    exact hkG g (hlow g (List.mem_cons_self ..)).2.1 (fun hm => (d3 g hm).1 rfl)
  have hr := rowSet hrow h.pl (i := 3) (show 3 < (frCells f v3 v4 v5).length from (by decide : 3 < 11)) v3'
  refine h.put _ (fGo f f.2.2.1 (fPile f ++ [a])) v3' v4 v5 F3' F4 F5 fs' (o3.fr hfr2 fun k hk hx => hng k hk (List.mem_singleton.1 hx))
    ((h.o4.keep fun k hk => hkG k (h.o4.lt k hk) (d4 k hk).2.1).fr hfr2 fun k hk hx => (d4 k hk).1 (List.mem_singleton.1 hx)) ((h.o5.keep fun k hk => hkG k (h.o5.lt k hk) (d5 k hk).2.1).fr hfr2 fun k hk hx => (d5 k hk).1 (List.mem_singleton.1 hx)) h.i ?_ (fun k hk => ?_) ?_ hr hfs
  · have hn := h.nd
    rw [List.nodup_append] at hn ⊢
    refine ⟨o3.nodup, hn.2.1, fun x hx y hy e => ?_⟩
    subst e
    rcases hF3' x hx with h1 | h1
    · exact hn.2.2 x h1 x hy rfl
    · have := (hlow x (List.mem_cons_of_mem _ (List.mem_append_right _ hy))).2.1; omega
  · rcases List.mem_append.1 hk with hk | hk
    · exact (hF3' k hk).imp (List.mem_append_left _) id
    · exact Or.inl (List.mem_append_right _ hk)
  · refine Fr.trans (hgk.more fun k hk => ?_) (hfr2.more fun k hk => by rw [List.mem_singleton.1 hk]; exact List.mem_cons_self ..)
    rw [← e3] at hk
    exact List.mem_cons_of_mem _ (List.mem_append_left _ hk)
/-- A variable of a frame is put. -/
theorem MM.setVar (h : MM C w (.slice (some ⟨g, 0, none⟩) n c) s) (hj : s.fs.reverse[j]? = some f) {g4 n4 c4 i : Nat} (h4 : w.cell? ⟨g, j * 11 + 4, none⟩ = some (.slice (some ⟨g4, 0, none⟩) n4 c4)) {a : Int} (ha : I64 a) (hi : i < f.2.2.2.2.1.length) {fs' : List Frame} (hfs : fs'.reverse = s.fs.reverse.set j (fVars f (f.2.2.2.2.1.set i a))) :
    MM C (w.setCell ⟨g4, i, none⟩ (.int .i64 a)) (.slice (some ⟨g, 0, none⟩) n c) { s with fs := fs' } := by
  obtain ⟨v3, v4, v5, F3, F4, F5, pre, post, h⟩ := h.opg hj
  have hc := h.fv.c4
  rw [h4] at hc
  injection hc with hc
  subst hc
  obtain ⟨e3, e4, d3, d4, d5⟩ := h.apart
  simp [Value.ownBlock] at e4
  have hfr : Fr [g4] w (w.setCell ⟨g4, i, none⟩ (.int .i64 a)) := Fr.setCell (p := ⟨g4, i, none⟩) (Fr.refl [g4] w) (List.mem_singleton.2 rfl) _
  have hg4 : g4 ∈ F4 := by rw [e4]; simp
  obtain ⟨h0, pre4, cs4, post4, Fj, e, hn4, hpl4, hown4, hrow4, _, hgj4, hsub4, put4⟩ := h.o4.focus (by decide) hi
  simp only [Option.some.injEq, Addr.mk.injEq, and_true, true_and] at e
  subst e
  have ecs : cs4 = [.int .i64 (f.2.2.2.2.1[i])] ∧ Fj = [] := ⟨hown4.2.1, hown4.1⟩
  obtain ⟨rfl, rfl⟩ := ecs
  have hr4 := rowSet hrow4 hpl4 (i := 0) (show 0 < [Value.int .i64 (f.2.2.2.2.1[i])].length from Nat.zero_lt_one) (.int .i64 a)
  rw [Nat.add_zero, show intR.size = 1 from rfl, Nat.mul_one] at hr4
  have o4 := put4 _ [.int .i64 a] a ⟨rfl, rfl, ha⟩ hr4 (fun k hk hne _ => absurd (by rw [e4] at hk; exact List.mem_singleton.1 hk) hne)
  refine h.put _ (fVars f (f.2.2.2.2.1.set i a)) v3 _ v5 F3 F4 F5 fs' (h.o3.fr hfr fun k hk hx => (d3 k hk).2.1 (by rw [List.mem_singleton.1 hx]; exact hg4)) o4 (h.o5.fr hfr fun k hk hx => (d5 k hk).2.2 (by rw [List.mem_singleton.1 hx]; exact hg4)) h.i h.nd (fun k hk => Or.inl hk)
    (hfr.more fun k hk => by rw [List.mem_singleton.1 hk]; exact List.mem_cons_of_mem _ (List.mem_append_right _ (List.mem_append_left _ hg4))) ?_ hfs
  exact ownsRow_keep0 h.row fun k hk => by
    simp [Value.ownBlock] at hk
    subst hk
    exact hfr.block _ (h.low _ (List.mem_cons_self ..)).2.1 (fun hm => (d4 g4 hg4).1 (List.mem_singleton.1 hm).symm)
/-- A flag of a frame is put. -/
theorem MM.setFlag (h : MM C w (.slice (some ⟨g, 0, none⟩) n c) s) (hj : s.fs.reverse[j]? = some f) {g5 n5 c5 i : Nat} (h5 : w.cell? ⟨g, j * 11 + 5, none⟩ = some (.slice (some ⟨g5, 0, none⟩) n5 c5)) {a : Bool} (hi : i < f.2.2.2.2.2.1.length) {fs' : List Frame} (hfs : fs'.reverse = s.fs.reverse.set j (fFlags f (f.2.2.2.2.2.1.set i a))) :
    MM C (w.setCell ⟨g5, i, none⟩ (.bool a)) (.slice (some ⟨g, 0, none⟩) n c) { s with fs := fs' } := by
  obtain ⟨v3, v4, v5, F3, F4, F5, pre, post, h⟩ := h.opg hj
  have hc := h.fv.c5
  rw [h5] at hc
  injection hc with hc
  subst hc
  obtain ⟨e3, e4, d3, d4, d5⟩ := h.apart
  have hfr : Fr [g5] w (w.setCell ⟨g5, i, none⟩ (.bool a)) := Fr.setCell (p := ⟨g5, i, none⟩) (Fr.refl [g5] w) (List.mem_singleton.2 rfl) _
  obtain ⟨h0, pre4, cs4, post4, Fj, e, hn4, hpl4, hown4, hrow4, hg5, hgj4, hsub4, put4⟩ := h.o5.focus (by decide) hi
  simp only [Option.some.injEq, Addr.mk.injEq, and_true, true_and] at e
  subst e
  have ecs : cs4 = [.bool (f.2.2.2.2.2.1[i])] ∧ Fj = [] := ⟨hown4.2.1, hown4.1⟩
  obtain ⟨rfl, rfl⟩ := ecs
  have hr4 := rowSet hrow4 hpl4 (i := 0) (show 0 < [Value.bool (f.2.2.2.2.2.1[i])].length from Nat.zero_lt_one) (.bool a)
  rw [Nat.add_zero, show boolR.size = 1 from rfl, Nat.mul_one] at hr4
  have o5 := put4 _ [.bool a] a ⟨rfl, rfl, trivial⟩ hr4 (fun k hk hne _ => hfr.block k (h.o5.lt k hk) (fun hm => hne (List.mem_singleton.1 hm)))
  refine h.put _ (fFlags f (f.2.2.2.2.2.1.set i a)) v3 v4 _ F3 F4 F5 fs' (h.o3.fr hfr fun k hk hx => (d3 k hk).2.2 (by rw [List.mem_singleton.1 hx]; exact hg5)) (h.o4.fr hfr fun k hk hx => (d4 k hk).2.2 (by rw [List.mem_singleton.1 hx]; exact hg5)) o5 h.i h.nd (fun k hk => Or.inl hk)
    (hfr.more fun k hk => by rw [List.mem_singleton.1 hk]; exact List.mem_cons_of_mem _ (List.mem_append_right _ (List.mem_append_right _ hg5))) ?_ hfs
  exact ownsRow_keep0 h.row fun k hk => by
    simp [Value.ownBlock] at hk
    subst hk
    exact hfr.block _ (h.low _ (List.mem_cons_self ..)).2.1 (fun hm => (d5 g5 hg5).1 (List.mem_singleton.1 hm).symm)
/-! ### the machine's own cells -/
/-- The machine's own cells. -/
structure MV (C : Cfg) (w : World) (vf vt vn : Value) (s : MS) : Prop where
  m0 : w.cell? ⟨C.M, 0, none⟩ = some (.slice C.ax C.nx C.cx)
  m1 : w.cell? ⟨C.M, 1, none⟩ = some (.slice C.ai C.ni C.ci)
  m2 : w.cell? ⟨C.M, 2, none⟩ = some (.int .i64 C.most)
  m3 : w.cell? ⟨C.M, 3, none⟩ = some vf
  m4 : w.cell? ⟨C.M, 4, none⟩ = some vt
  m5 : w.cell? ⟨C.M, 5, none⟩ = some (.int .i64 (s.used : Int))
  m6 : w.cell? ⟨C.M, 6, none⟩ = some (.int .i64 s.code)
  m7 : w.cell? ⟨C.M, 7, none⟩ = some (.int .i64 s.val)
  m8 : w.cell? ⟨C.M, 8, none⟩ = some (.int .i64 s.made)
  m9 : w.cell? ⟨C.M, 9, none⟩ = some vn
  fz : ∀ i, w.frozen? ⟨C.M, i, none⟩ = false
  lt : C.M < w.heap.size
theorem MSt.mv (h : MSt C w vf s Ff Ft Fn vt vn) : MV C w vf vt vn s := by
  have hc := fun i => cell_of_row w C.M i _ _ _ h.blk
  exact ⟨hc 0, hc 1, hc 2, hc 3, hc 4, hc 5, hc 6, hc 7, hc 8, hc 9, blk_frozen h.blk, h.ltM⟩
theorem MM.mv (h : MM C w vf s) : ∃ vt vn, MV C w vf vt vn s := by
  obtain ⟨Ff, Ft, Fn, vt, vn, h⟩ := h
  exact ⟨vt, vn, h.mv⟩
theorem MM.putM (h : MM C w vf s) (i : Nat) (v : Value) {used' : Nat} {code' val' made' : Int} (e : ∀ vt vn, (w.setCell ⟨C.M, i, none⟩ v).heap[C.M]? = some (.cells (#[.slice C.ax C.nx C.cx, .slice C.ai C.ni C.ci, .int .i64 C.most, vf, vt, .int .i64 (s.used : Int), .int .i64 s.code, .int .i64 s.val, .int .i64 s.made, vn].setIfInBounds i v) C.T (0, 0)) →
    (w.setCell ⟨C.M, i, none⟩ v).heap[C.M]? = some (C.cells vf vt (used' : Int) code' val' made' vn)) : MM C (w.setCell ⟨C.M, i, none⟩ v) vf { s with used := used', code := code', val := val', made := made' } := by
  obtain ⟨Ff, Ft, Fn, vt, vn, h⟩ := h
  have hfr : Fr [C.M] w (w.setCell ⟨C.M, i, none⟩ v) := Fr.setCell (p := ⟨C.M, i, none⟩) (Fr.refl [C.M] w) (List.mem_singleton.2 rfl) _
  obtain ⟨d1, _, _⟩ := h.ndF
  exact ⟨Ff, Ft, Fn, vt, vn, h.putF (fs' := s.fs) (hfr.more fun k hk => by rw [List.mem_singleton.1 hk]; exact List.mem_cons_self ..) (e vt vn (heap_setCell_same w C.M i _ C.T v h.blk)) (h.frs.fr hfr fun k hk hx => (d1 k hk).1 (List.mem_singleton.1 hx)) (fun k hk => Or.inl hk)⟩
theorem MM.setUsed (h : MM C w vf s) (u : Nat) : MM C (w.setCell ⟨C.M, 5, none⟩ (.int .i64 (u : Int))) vf { s with used := u } := h.putM 5 _ (code' := s.code) (val' := s.val) (made' := s.made) fun _ _ h => h
theorem MM.setCode (h : MM C w vf s) (a : Int) : MM C (w.setCell ⟨C.M, 6, none⟩ (.int .i64 a)) vf { s with code := a } := h.putM 6 _ (used' := s.used) (val' := s.val) (made' := s.made) fun _ _ h => h
theorem MM.setValue (h : MM C w vf s) (a : Int) : MM C (w.setCell ⟨C.M, 7, none⟩ (.int .i64 a)) vf { s with val := a } := h.putM 7 _ (used' := s.used) (code' := s.code) (made' := s.made) fun _ _ h => h
theorem MM.setMade (h : MM C w vf s) (a : Int) : MM C (w.setCell ⟨C.M, 8, none⟩ (.int .i64 a)) vf { s with made := a } := h.putM 8 _ (used' := s.used) (code' := s.code) (val' := s.val) fun _ _ h => h
/-- The trace grows. -/
theorem MM.traced (h : MM C w vf s) : ∃ vt xs, w.cell? ⟨C.M, 4, none⟩ = some vt ∧ w.ownsRow 0 3 1 vt s.tr.length xs ∧ vt.ownBlock ≠ some C.M ∧
    ∀ a wk vt', I64 a → wk.ownsRow 0 3 1 vt' (s.tr.length + 1) (xs ++ [.int .i64 a]) → w.grownBy wk vt.ownBlock → (vt'.ownBlock = vt.ownBlock ∨ vt'.ownBlock = some w.heap.size) →
      MM C (wk.setCell ⟨C.M, 4, none⟩ vt') vf { s with tr := s.tr ++ [a] } := by
  obtain ⟨Ff, Ft, Fn, vt, vn, h⟩ := h
  obtain ⟨xs, hx, hb, app⟩ := h.tr.app
  obtain ⟨d1, d2, d3⟩ := h.ndF
  have hFt := own_ints_F h.tr
  refine ⟨vt, xs, h.mv.m4, hx, fun e => (d2 _ (hb _ e)).1 rfl, ?_⟩
  intro a wk vt' ha hr hg hv
  have hgk := fr_of_grown hg
  obtain ⟨Ft', o3, hF3⟩ := app wk vt' [.int .i64 a] a [] hr ⟨rfl, rfl, ha⟩ (fun k hk => by cases hk) (hv.imp id fun e => ⟨_, e, Nat.le_refl _⟩) (fun k hk hn => by rw [hFt] at hk; simp at hk; exact absurd hk hn)
  have hF' : ∀ k, k ∈ Ft' → k ∈ Ft ∨ w.heap.size ≤ k := fun k hk => by
    rcases hF3 k hk with h | h | h
    · exact Or.inl h
    · cases h
    · exact Or.inr h
  have hfr2 : Fr [C.M] wk (wk.setCell ⟨C.M, 4, none⟩ vt') := Fr.setCell (p := ⟨C.M, 4, none⟩) (Fr.refl [C.M] wk) (List.mem_singleton.2 rfl) _
  have hbk : wk.heap[C.M]? = some (C.cells vf vt (s.used : Int) s.code s.val s.made vn) := by
    rw [hgk.block _ h.ltM (fun hm => by rw [← hFt] at hm; exact (d2 _ hm).1 rfl)]; exact h.blk
  have hb2 := heap_setCell_same wk C.M 4 _ C.T vt' hbk
  refine ⟨Ff, Ft', Fn, vt', vn, h.putT (Fr.trans (hgk.more fun k hk => ?_) (hfr2.more fun k hk => ?_)) hb2 (o3.fr hfr2 fun k hk hx => ?_) hF'⟩
  · rw [hFt]; exact List.mem_cons_of_mem _ hk
  · rw [List.mem_singleton.1 hk]; exact List.mem_cons_self ..
  · rcases hF' k hk with hk | hk
    · exact (d2 k hk).1 (List.mem_singleton.1 hx)
    · have := h.ltM; have := List.mem_singleton.1 hx; omega
theorem own_notes_F {w : World} {e : TypeId} {F : List Nat} {v : Value} {l : List Note} (h : OwnSl noteR w e F v l) : F = v.ownBlock.toList := by
  obtain ⟨csl, Fs, _, h2, rfl, _⟩ := h
  have : Fs.flatten = [] := by
    rw [List.flatten_eq_nil_iff]
    intro a ha
    obtain ⟨i, hi, rfl⟩ := List.getElem_of_mem ha
    have hl := h2.len
    obtain ⟨_, _, _, _, _, hF, _⟩ := Note_ownx (h2.get i hi (by omega) (by omega))
    exact hF
  rw [this, List.append_nil]
/-- The notes grow. -/
theorem MM.noted (h : MM C w vf s) : ∃ vn xs, w.cell? ⟨C.M, 9, none⟩ = some vn ∧ w.ownsRow 0 97 3 vn s.notes.length xs ∧ vn.ownBlock ≠ some C.M ∧
    ∀ a b d wk vn', I64 a → I64 b → I64 d → wk.ownsRow 0 97 3 vn' (s.notes.length + 1) (xs ++ [.int .i64 a, .int .i64 b, .int .i64 d]) → w.grownBy wk vn.ownBlock → (vn'.ownBlock = vn.ownBlock ∨ vn'.ownBlock = some w.heap.size) →
      MM C (wk.setCell ⟨C.M, 9, none⟩ vn') vf { s with notes := s.notes ++ [(a, b, d)] } := by
  obtain ⟨Ff, Ft, Fn, vt, vn, h⟩ := h
  obtain ⟨xs, hx, hb, app⟩ := h.notes.app
  obtain ⟨d1, d2, d3⟩ := h.ndF
  have hFn := own_notes_F h.notes
  refine ⟨vn, xs, h.mv.m9, hx, fun e => (d3 _ (hb _ e)).1 rfl, ?_⟩
  intro a b d wk vn' ha hb' hd hr hg hv
  have hgk := fr_of_grown hg
  obtain ⟨Fn', o3, hF3⟩ := app wk vn' [.int .i64 a, .int .i64 b, .int .i64 d] (a, b, d) [] hr (Note_own wk a b d ha hb' hd) (fun k hk => by cases hk) (hv.imp id fun e => ⟨_, e, Nat.le_refl _⟩) (fun k hk hn => by rw [hFn] at hk; simp at hk; exact absurd hk hn)
  have hF' : ∀ k, k ∈ Fn' → k ∈ Fn ∨ w.heap.size ≤ k := fun k hk => by
    rcases hF3 k hk with h | h | h
    · exact Or.inl h
    · cases h
    · exact Or.inr h
  have hfr2 : Fr [C.M] wk (wk.setCell ⟨C.M, 9, none⟩ vn') := Fr.setCell (p := ⟨C.M, 9, none⟩) (Fr.refl [C.M] wk) (List.mem_singleton.2 rfl) _
  have hbk : wk.heap[C.M]? = some (C.cells vf vt (s.used : Int) s.code s.val s.made vn) := by
    rw [hgk.block _ h.ltM (fun hm => by rw [← hFn] at hm; exact (d3 _ hm).1 rfl)]; exact h.blk
  have hb2 := heap_setCell_same wk C.M 9 _ C.T vn' hbk
  refine ⟨Ff, Ft, Fn', vt, vn', h.putN (Fr.trans (hgk.more fun k hk => ?_) (hfr2.more fun k hk => ?_)) hb2 (o3.fr hfr2 fun k hk hx => ?_) hF'⟩
  · rw [hFn]; exact List.mem_cons_of_mem _ hk
  · rw [List.mem_singleton.1 hk]; exact List.mem_cons_self ..
  · rcases hF' k hk with hk | hk
    · exact (d3 k hk).1 (List.mem_singleton.1 hx)
    · have := h.ltM; have := List.mem_singleton.1 hx; omega
/-- The last frame is taken off. -/
theorem MM.cutF (h : MM C w (.slice (some ⟨g, 0, none⟩) n c) s) {m : Nat} (hm : m ≤ s.fs.length) {fs' : List Frame} (hfs : fs'.reverse = s.fs.reverse.take m) :
    MM C (w.setCell ⟨C.M, 3, none⟩ (.slice (some ⟨g, 0, none⟩) m c)) (.slice (some ⟨g, 0, none⟩) m c) { s with fs := fs' } := by
  obtain ⟨Ff, Ft, Fn, vt, vn, h⟩ := h
  obtain ⟨d1, d2, d3⟩ := h.ndF
  obtain ⟨F', ho, hF⟩ := h.frs.cut m (by rw [List.length_reverse]; exact hm)
  rw [← hfs] at ho
  have hfr : Fr [C.M] w (w.setCell ⟨C.M, 3, none⟩ (.slice (some ⟨g, 0, none⟩) m c)) := Fr.setCell (p := ⟨C.M, 3, none⟩) (Fr.refl [C.M] w) (List.mem_singleton.2 rfl) _
  exact ⟨F', Ft, Fn, vt, vn, h.putF (used' := s.used) (code' := s.code) (val' := s.val) (made' := s.made) (hfr.more fun k hk => by rw [List.mem_singleton.1 hk]; exact List.mem_cons_self ..) (heap_setCell_same w C.M 3 _ C.T _ h.blk) (ho.fr hfr fun k hk hx => (d1 k (hF k hk)).1 (List.mem_singleton.1 hx)) (fun k hk => Or.inl (hF k hk))⟩
/-- New blocks that the machine does not hold. -/
theorem MM.apart (h : MM C w vf s) (hb : Below w.heap.size w w') {Fx : List Nat} (hx : ∀ k, k ∈ Fx → w.heap.size ≤ k ∧ k < w'.heap.size) : MM { C with D := Fx ++ C.D } w' vf s := by
  obtain ⟨Ff, Ft, Fn, vt, vn, h⟩ := h
  have h' := h.keep hb
  refine ⟨Ff, Ft, Fn, vt, vn, ⟨h'.blk, h'.frs, h'.tr, h'.notes, h'.nd, h'.low, h'.xs, h'.ins, h'.old, h'.le, fun k hk => ?_⟩⟩
  rcases List.mem_append.1 hk with hk | hk
  · exact ⟨(hx k hk).2, fun hm => by have := h.lt k hm; have := hx k hk; omega⟩
  · exact h'.ap k hk
/-- A frame is laid above. -/
theorem MM.framed {D : List Nat} {Fx : List Nat} (h : MM { C with D := Fx ++ D } w vf s) (hD : ∀ k, k ∈ D → k ∉ Fx) (hB : ∀ k, k ∈ Fx → C.B ≤ k) : ∃ xs, w.ownsRow 0 74 11 vf s.fs.length xs ∧ vf.ownBlock ≠ some C.M ∧
    ∀ f cs wk vf', FrameR.own w Fx cs f → wk.ownsRow 0 74 11 vf' (s.fs.length + 1) (xs ++ cs) → w.grownBy wk vf.ownBlock → (vf'.ownBlock = vf.ownBlock ∨ vf'.ownBlock = some w.heap.size) →
      MM { C with D := D } (wk.setCell ⟨C.M, 3, none⟩ vf') vf' { s with fs := f :: s.fs } := by
  obtain ⟨Ff, Ft, Fn, vt, vn, h⟩ := h
  obtain ⟨xs, hx, hb, app⟩ := h.frs.app
  rw [List.length_reverse] at hx app
  obtain ⟨d1, d2, d3⟩ := h.ndF
  refine ⟨xs, hx, fun e => (d1 _ (hb _ e)).1 rfl, ?_⟩
  intro f cs wk vf' ho hr hg hv
  have hgk := fr_of_grown hg
  have hX : ∀ k, k ∈ Fx → k < w.heap.size ∧ k ∉ C.M :: (Ff ++ (Ft ++ Fn)) := fun k hk => h.ap k (List.mem_append_left _ hk)
  have hXF : ∀ k, k ∈ Fx → k ∉ Ff := fun k hk hm => (hX k hk).2 (List.mem_cons_of_mem _ (List.mem_append_left _ hm))
  have hXv : ∀ k, k ∈ Fx → k ∉ vf.ownBlock.toList := fun k hk hm => hXF k hk (hb k (by simpa using hm))
  obtain ⟨Ff', o3, hF3⟩ := app wk vf' cs f Fx hr (FrameR.ownKeep (fun k hk => hgk.block k (hX k hk).1 (hXv k hk)) ho) (fun k hk => ⟨hXF k hk, fun e => by
    rcases hv with hv | hv
    · exact hXv k hk (by rw [← hv, e]; simp)
    · have : w.heap.size = k := Option.some.inj (hv.symm.trans e)
      have := (hX k hk).1; omega⟩) (hv.imp id fun e => ⟨_, e, Nat.le_refl _⟩) (fun k hk hn => hgk.block k (h.frs.lt k hk) (fun hm => hn (by simpa using hm)))
  have hfr2 : Fr [C.M] wk (wk.setCell ⟨C.M, 3, none⟩ vf') := Fr.setCell (p := ⟨C.M, 3, none⟩) (Fr.refl [C.M] wk) (List.mem_singleton.2 rfl) _
  have hbk : wk.heap[C.M]? = some (C.cells vf vt (s.used : Int) s.code s.val s.made vn) := by
    rw [hgk.block _ h.ltM (fun hm => (d1 _ (hb _ (by simpa using hm))).1 rfl)]; exact h.blk
  have hb2 := heap_setCell_same wk C.M 3 _ C.T vf' hbk
  have hlt := h.lt
  have hltM : C.M < w.heap.size := h.ltM
  have hfr : Fr (C.M :: Ff) w (wk.setCell ⟨C.M, 3, none⟩ vf') := Fr.trans (hgk.more fun k hk => List.mem_cons_of_mem _ (hb k (by simpa using hk))) (hfr2.more fun k hk => by rw [List.mem_singleton.1 hk]; exact List.mem_cons_self ..)
  have hlow : ∀ k, k ∈ C.M :: Ff → C.B ≤ k := fun k hk => h.low k (by
    rcases List.mem_cons.1 hk with rfl | hk
    · exact List.mem_cons_self ..
    · exact List.mem_cons_of_mem _ (List.mem_append_left _ hk))
  obtain ⟨b1, b2, b3, b4⟩ := h.base hfr hlow
  have hnM : ∀ k, k ∈ Ff' → k ≠ C.M ∧ k ∉ Ft ++ Fn ∧ k ∉ D := fun k hk => by
    rcases hF3 k hk with hk | hk | hk
    · exact ⟨(d1 k hk).1, fun hm => by rcases List.mem_append.1 hm with hm | hm; exact (d1 k hk).2.1 hm; exact (d1 k hk).2.2 hm, fun hm => (h.ap k (List.mem_append_right _ hm)).2 (List.mem_cons_of_mem _ (List.mem_append_left _ hk))⟩
    · exact ⟨fun e => (hX k hk).2 (e ▸ List.mem_cons_self ..), fun hm => (hX k hk).2 (List.mem_cons_of_mem _ (List.mem_append_right _ hm)), fun hm => hD k hm hk⟩
    · exact ⟨fun e => by omega, fun hm => by have := hlt k (List.mem_cons_of_mem _ (List.mem_append_right _ hm)); omega, fun hm => by have := (h.ap k (List.mem_append_right _ hm)).1; omega⟩
  have hnd := h.nd
  rw [List.nodup_cons, List.nodup_append] at hnd
  obtain ⟨q0, q1, q2, q3⟩ := hnd
  refine ⟨Ff', Ft, Fn, vt, vn, ⟨hb2, ?_, h.tr.fr hfr (fun k hk hx => by rcases List.mem_cons.1 hx with hx | hx; exact (d2 k hk).1 hx; exact (d2 k hk).2.1 hx), h.notes.fr hfr (fun k hk hx => by rcases List.mem_cons.1 hx with hx | hx; exact (d3 k hk).1 hx; exact (d3 k hk).2.1 hx), ?_, ?_, b1, b2, b3, b4, ?_⟩⟩
  · show OwnSl FrameR _ _ _ _ (f :: s.fs).reverse
    rw [List.reverse_cons]
    exact o3.fr hfr2 fun k hk hx => (hnM k hk).1 (List.mem_singleton.1 hx)
  · rw [List.nodup_cons, List.nodup_append]
    refine ⟨fun hm => ?_, o3.nodup, q2, fun a ha b hb e => (hnM a ha).2.1 (e ▸ hb)⟩
    rcases List.mem_append.1 hm with hm | hm
    · exact (hnM _ hm).1 rfl
    · exact q0 (List.mem_append_right _ hm)
  · intro k hk
    rcases List.mem_cons.1 hk with rfl | hk
    · exact hlow _ (List.mem_cons_self ..)
    · rcases List.mem_append.1 hk with hk | hk
      · rcases hF3 k hk with hk | hk | hk
        · exact hlow k (List.mem_cons_of_mem _ hk)
        · exact hB k hk
        · exact Nat.le_trans h.le hk
      · exact h.low k (List.mem_cons_of_mem _ (List.mem_append_right _ hk))
  · intro k hk
    obtain ⟨a1, a2⟩ := h.ap k (List.mem_append_right _ hk)
    refine ⟨Nat.lt_of_lt_of_le a1 hfr.size, fun hm => ?_⟩
    rcases List.mem_cons.1 hm with rfl | hm
    · exact a2 (List.mem_cons_self ..)
    · rcases List.mem_append.1 hm with hm | hm
      · exact (hnM k hm).2.2 hk
      · exact a2 (List.mem_cons_of_mem _ (List.mem_append_right _ hm))
end
end Go.Proofs.YtgdeclmciflmpaaGreat

/- The machine's short methods, our side: walks. -/
set_option linter.unusedVariables false
set_option linter.unusedSimpArgs false
set_option maxRecDepth 100000
namespace Go.Proofs.YtgdeclmciflmpaaGreat
open Go.RowKit
attribute [local irreducible] wpList
/-- Frame j (from below) put anew. -/
def MS.put (s : MS) (j : Nat) (f : Frame) : MS := { s with fs := (s.fs.reverse.set j f).reverse }
theorem MS.put_rev (s : MS) (j : Nat) (f : Frame) : (s.put j f).fs.reverse = s.fs.reverse.set j f := List.reverse_reverse _
theorem MS.put_get {s : MS} {j : Nat} {f f' : Frame} (h : s.fs.reverse[j]? = some f') : (s.put j f).fs.reverse[j]? = some f := by
  rw [MS.put_rev, List.getElem?_set_self (List.getElem?_eq_some_iff.1 h).1]
theorem MS.put_put (s : MS) (j : Nat) (a b : Frame) : (s.put j a).put j b = s.put j b := by
  unfold MS.put
  simp [List.reverse_reverse, List.set_set]
theorem MS.put_len (s : MS) (j : Nat) (a : Frame) : (s.put j a).fs.length = s.fs.length := by unfold MS.put; simp
section
variable {C : Cfg} {w : World} {s : MS} {j g n c : Nat} {f : Frame}
theorem MM.pAt (h : MM C w (.slice (some ⟨g, 0, none⟩) n c) s) (hj : s.fs.reverse[j]? = some f) {a : Int} (ha : I64 a) : MM C (w.setCell ⟨g, j * 11 + 2, none⟩ (.int .i64 a)) (.slice (some ⟨g, 0, none⟩) n c) (s.put j (fGo f a (fPile f))) := h.setAt hj ha (s.put_rev j _)
theorem MM.pNil (h : MM C w (.slice (some ⟨g, 0, none⟩) n c) s) (hj : s.fs.reverse[j]? = some f) : MM C (w.setCell ⟨g, j * 11 + 3, none⟩ (.slice none 0 0)) (.slice (some ⟨g, 0, none⟩) n c) (s.put j (fGo f f.2.2.1 [])) := h.setNil hj (s.put_rev j _)
theorem MM.pRes (h : MM C w (.slice (some ⟨g, 0, none⟩) n c) s) (hj : s.fs.reverse[j]? = some f) {a : Int} (ha : I64 a) : MM C (w.setCell ⟨g, j * 11 + 6, none⟩ (.int .i64 a)) (.slice (some ⟨g, 0, none⟩) n c) (s.put j (fRes f a)) := h.setRes hj ha (s.put_rev j _)
theorem MM.pMode (h : MM C w (.slice (some ⟨g, 0, none⟩) n c) s) (hj : s.fs.reverse[j]? = some f) {a : Int} (ha : I64 a) : MM C (w.setCell ⟨g, j * 11 + 7, none⟩ (.int .i64 a)) (.slice (some ⟨g, 0, none⟩) n c) (s.put j (fMode f a)) := h.setMode hj ha (s.put_rev j _)
theorem MM.pVal (h : MM C w (.slice (some ⟨g, 0, none⟩) n c) s) (hj : s.fs.reverse[j]? = some f) {a : Int} (ha : I64 a) : MM C (w.setCell ⟨g, j * 11 + 8, none⟩ (.int .i64 a)) (.slice (some ⟨g, 0, none⟩) n c) (s.put j (fVal f a)) := h.setVal hj ha (s.put_rev j _)
theorem MM.pBase (h : MM C w (.slice (some ⟨g, 0, none⟩) n c) s) (hj : s.fs.reverse[j]? = some f) {a : Int} (ha : I64 a) : MM C (w.setCell ⟨g, j * 11 + 9, none⟩ (.int .i64 a)) (.slice (some ⟨g, 0, none⟩) n c) (s.put j (fBase f a)) := h.setBase hj ha (s.put_rev j _)
end
theorem slice_form {w : World} {base size n : Nat} {e : TypeId} {v : Value} {xs : List Value} (h : w.ownsRow base e size v n xs) : ∃ A m c, v = .slice A m c := by
  rcases h.2 with ⟨rfl, _⟩ | ⟨g, cap, cur, rfl, _⟩
  · exact ⟨_, _, _, rfl⟩
  · exact ⟨_, _, _, rfl⟩
/-- The call tells a value and only draws. -/
def RetQ (v : Value) (w : World) (e : Ending) (w' : World) : Prop := e = .returned v ∧ ∃ k, w' = w.drewN k
theorem implTop (C : Cfg) (w : World) (g n c : Nat) (s : MS) (h : MM C w (.slice (some ⟨g, 0, none⟩) n c) s) (h0 : 0 < n) (h1 : n ≤ 1000000) (hnc : n ≤ c) (hcm : c ≤ 9223372036854775807) :
    Calls Tryz.prog 50 #[.pointer (some ⟨C.M, 0, none⟩)] w (RetQ (.pointer (some ⟨g, (n - 1) * 11, none⟩)) w) := by
  obtain ⟨vt, vn, hv⟩ := h.mv
  have c3 := hv.m3
  have hM := hv.lt
  have e1 : ((n : Int) - 1) = ((n - 1 : Nat) : Int) := by omega
  have e2 : n - 1 < n := by omega
  go_enter Tryz.func50, Tryz.ntmps50
  go_wp2_with fail
  go_quiet (fail)
  go_wp2_with fail
  go_ret
  exact ⟨rfl, _, rfl⟩
/-- The frame's pile is one shorter; its last number is told. -/
def RetPop (C : Cfg) (g n c : Nat) (s : MS) (j : Nat) (f : Frame) (w : World) (e : Ending) (w' : World) : Prop :=
  e = .returned (.int .i64 (lastN (fPile f))) ∧ ∃ k v3, w' = (w.drewN k).setCell ⟨g, j * 11 + 3, none⟩ v3 ∧
    MM C w' (.slice (some ⟨g, 0, none⟩) n c) (s.put j (fGo f f.2.2.1 (fPile f).dropLast))
theorem MM.drewN {C : Cfg} {w : World} {vf : Value} {s : MS} (h : MM C w vf s) (k : Nat) : MM C (w.drewN k) vf s := h.keep ⟨rfl, rfl, rfl, Nat.le_refl _, fun _ _ => rfl⟩
theorem lastN_at {l : List Int} {k : Nat} (hk : k < l.length) (e : k = l.length - 1) : l[k] = lastN l := by
  subst e; unfold lastN; simp [List.getD, hk]
theorem implPop (C : Cfg) (w : World) (g n c : Nat) (s : MS) (j : Nat) (f : Frame) (h : MM C w (.slice (some ⟨g, 0, none⟩) n c) s) (hj : s.fs.reverse[j]? = some f) (h0 : 0 < (fPile f).length) (h1 : (fPile f).length ≤ 1000000) :
    Calls Tryz.prog 51 #[.pointer (some ⟨g, j * 11, none⟩)] w (RetPop C g n c s j f w) := by
  obtain ⟨v3, v4, v5, F3, F4, F5, pre, post, ho⟩ := h.opg hj
  obtain ⟨A3, n3, c3, rfl, hl⟩ := ho.o3.form
  have hv := ho.fv
  have r3 := hv.c3
  have fz := hv.fz (j * 11 + 3)
  have hg := hv.lt
  have hsl := ho.o3.sl
  obtain ⟨b, o, rfl, q1, q2, hc1, hi1⟩ := hsl.int_at (k := n3 - 1) (by omega)
  obtain ⟨_, hx, hb, _⟩ := ho.o3.row'
  obtain ⟨_, ⟨h0', _⟩ | ⟨g3, e3, q3, q4⟩⟩ := ownsRow_cases hx
  · cases h0'
  simp only [Option.some.injEq, Addr.mk.injEq, and_true] at e3
  obtain ⟨rfl, rfl⟩ := e3
  have e1 : ((n3 : Int) - 1) = ((n3 - 1 : Nat) : Int) := by omega
  have e2 : n3 - 1 < n3 := by omega
  rw [lastN_at (by omega) (by omega)] at hc1
  have hM := Lib.hid h
  have hL := Lib.hid hl
  have h00 : 0 < n3 := by omega
  have h11 : n3 ≤ 1000000 := by omega
  rw [Nat.zero_add] at hc1
  clear hi1 hv hsl hx hb ho h h0 h1
  clear hl
  go_enter Tryz.func51, Tryz.ntmps51
  go_wp2_with fail
  go_ret
  refine ⟨rfl, 0, .slice (some ⟨b, 0, none⟩) (n3 - 1) c3, rfl, ?_⟩
  have hl := hL.out
  exact hM.out.setCut hj r3 (m := n3 - 1) (by omega) (by rw [List.reverse_reverse, List.dropLast_eq_take, hl])
/-- A number more on a frame's pile. -/
def RetPush (C : Cfg) (g n c : Nat) (s : MS) (j : Nat) (f : Frame) (a : Int) (w : World) (e : Ending) (w' : World) : Prop :=
  e = .returned (.tuple #[]) ∧ MM C w' (.slice (some ⟨g, 0, none⟩) n c) (s.put j (fGo f f.2.2.1 (fPile f ++ [a])))
theorem implPush (C : Cfg) (w : World) (g n c : Nat) (s : MS) (j : Nat) (f : Frame) (a : Int) (ha : I64 a) (h : MM C w (.slice (some ⟨g, 0, none⟩) n c) s) (hj : s.fs.reverse[j]? = some f) (h1 : (fPile f).length ≤ 1000000) :
    Calls Tryz.prog 54 #[.pointer (some ⟨g, j * 11, none⟩), .int .i64 a] w (RetPush C g n c s j f a w) := by
  obtain ⟨inf, hif, hz0, hz1, hz2⟩ := info_parts Tryz.infoInt
  obtain ⟨v3, v4, v5, F3, F4, F5, pre, post, ho⟩ := h.opg hj
  have hv := ho.fv
  have fz := hv.fz (j * 11 + 3)
  have hg := hv.lt
  clear hv ho
  have hA : MM C (w.alloc (.cells #[.int .i64 a] 3)) (.slice (some ⟨g, 0, none⟩) n c) s := h.keep (Below.alloc (Below.refl _ _) (Nat.le_refl _) _)
  obtain ⟨v3', xs, r3', hx, hng, put⟩ := hA.pushed hj
  have r3 : w.cell? ⟨g, j * 11 + 3, none⟩ = some v3' := by rw [← r3']; exact (World.cell?_of_block (a := ⟨g, j * 11 + 3, none⟩) (alloc_lt hg)).symm
  have HX := Lib.hid hx
  have PUT := Lib.hid put
  clear hx put h hA r3'
  go_enter Tryz.func54, Tryz.ntmps54
  go_wp2_with (at_builtin; refine wpList_append_own_at _ rfl _ _ 25 rfl 0 3 inf (.int .i64 0) 1 8 Tryz.underlying25 hif hz0 hz1 hz2 rfl (by decide) v3' (fPile f).length xs rfl HX.out ⟨w.heap.size, 0, none⟩ 1 1 [.int .i64 a] rfl rfl (cell_new1 _ _ _ rfl) (by simp [Value.oneCell']) (by unfold maxLen; omega) (by omega) (Nat.zero_le _) ?_)
  intro v' wk hown hgr hnil hblk
  have hbk : wk.heap[g]? = w.heap[g]? := by
    rw [hgr.block g (by simp; omega) (fun e => hng e.symm)]; exact alloc_lt hg
  have hgk : g < wk.heap.size := Nat.lt_of_lt_of_le hg (Nat.le_trans (by simp) hgr.size)
  have r3k : wk.cell? ⟨g, j * 11 + 3, none⟩ = some v3' := by rw [World.cell?_of_block (a := ⟨g, j * 11 + 3, none⟩) hbk]; exact r3
  have fzk : wk.frozen? ⟨g, j * 11 + 3, none⟩ = false := by rw [World.frozen?_of_block (a := ⟨g, j * 11 + 3, none⟩) hbk]; exact fz
  obtain ⟨Av, nv, cv, rfl⟩ := slice_form hown
  have HO := Lib.hid hown
  have HG := Lib.hid hgr
  have HB := Lib.hid hblk
  clear hown hgr hblk hnil hbk
  go_wp2_with fail
  go_end0
  exact ⟨rfl, PUT.out a wk _ _ ha HO.out HG.out (by have := HB.out; rwa [size_alloc]) (s.put_rev ..)⟩
theorem MM.xs {C : Cfg} {w : World} {vf : Value} {s : MS} (h : MM C w vf s) : Sl CodeR w 0 C.B C.ax C.nx C.cx C.x ∧ Sl intR w 0 C.B C.ai C.ni C.ci C.ins ∧ C.B ≤ w.heap.size := by
  obtain ⟨Ff, Ft, Fn, vt, vn, h⟩ := h
  exact ⟨h.xs, h.ins, h.le⟩
set_option maxHeartbeats 4000000 in
theorem implPadAt (C : Cfg) (w : World) (g n c : Nat) (s : MS) (j : Nat) (f : Frame) (h : MM C w (.slice (some ⟨g, 0, none⟩) n c) s) (hj : s.fs.reverse[j]? = some f) (hfn : 0 ≤ f.2.1 ∧ f.2.1 < (C.x.length : Int))
    (hr : ∃ r, r < (fCode C.x f).2.2.2.2.length ∧ idxW (inRow f.2.2.1) (fCode C.x f).2.2.2.2 = (r : Int)) (hz : C.x.length ≤ 1048576) (hz2 : (fCode C.x f).2.2.2.2.length ≤ 1048576) :
    Calls Tryz.prog 55 #[.pointer (some ⟨C.M, 0, none⟩), .pointer (some ⟨g, j * 11, none⟩)] w (RetIx (padFr C.x f) w) := by
  obtain ⟨v3, v4, v5, F3, F4, F5, pre, post, ho⟩ := h.opg hj
  have fv := ho.fv
  have c1 := fv.c1
  have c2 := fv.c2
  have hg := fv.lt
  obtain ⟨vt, vn, mv⟩ := h.mv
  have m0 := mv.m0
  have hM := mv.lt
  obtain ⟨hx, _, hB⟩ := h.xs
  have hxl := hx.lenEq
  obtain ⟨fn, e⟩ := Int.eq_ofNat_of_zero_le hfn.1
  have hfx : fn < C.x.length := by omega
  have hfn' : fn < C.nx := by omega
  have hfI : (fn : Int) < (C.nx : Int) := by omega
  obtain ⟨bc, oc, z0, z1, D2, k2, d2, t2, D3, k3, d3, t3, D4, k4, d4, t4, eA, _, hbb, hlc, _, _, kS2, kS3, kS4, u0, u1, u2, u3, u4⟩ := Code_at hx hfn'
  have ec : fCode C.x f = (z0, z1, t2, t3, t4) := by unfold fCode; rw [e, codeD_at hfx, hlc]
  rw [eA] at m0
  rw [e] at c1
  obtain ⟨r, hrl, hri⟩ := hr
  rw [ec] at hrl hri hz2
  simp only at hrl hri hz2
  have L4 := kS4.lenEq
  have hrm : r < k4 := by omega
  have hrI : (r : Int) < (k4 : Int) := by omega
  have HP := Lib.hid (show padFr C.x f = padOf t4 (r : Int) by unfold padFr; rw [ec]; simp only; rw [hri])
  have hbw : bc < w.heap.size := by omega
  have kW := kS4.keep (lo' := 0) (hi' := w.heap.size) (w' := w) (Nat.le_refl _) (by omega) (fun _ _ _ => rfl)
  have hS := Lib.hid (show ∀ V', Below w.heap.size w V' → V'.cell? ⟨C.M, 0, none⟩ = some (.slice (some ⟨bc, oc, none⟩) C.nx C.cx) ∧ V'.cell? ⟨g, j * 11 + 1, none⟩ = some (.int .i64 fn) ∧ V'.cell? ⟨bc, oc + fn * 5, none⟩ = some (.int .i64 z0) ∧ V'.cell? ⟨bc, oc + fn * 5 + 1, none⟩ = some (.int .i64 z1) ∧ V'.cell? ⟨bc, oc + fn * 5 + 2, none⟩ = some (.slice D2 k2 d2) ∧ V'.cell? ⟨bc, oc + fn * 5 + 3, none⟩ = some (.slice D3 k3 d3) ∧ V'.cell? ⟨bc, oc + fn * 5 + 4, none⟩ = some (.slice D4 k4 d4) from fun V' hV => ⟨below_cell hV m0, below_cell hV c1, below_cell hV u0, below_cell hV u1, below_cell hV u2, below_cell hV u3, below_cell hV u4⟩)
  have HRI := Lib.hid hri
  have hN := C.nx
  clear hri ec e hlc hxl L4 fv ho mv hx
  go_enter Tryz.func55, Tryz.ntmps55
  go_wp2_with fail
  obtain ⟨q0, q1, q2, q3, q4, q5, q6⟩ := hS.out w (Below.refl _ _)
  go_region_held3 (fun V' => V'.cell? ⟨C.M, 0, none⟩ = some (.slice (some ⟨bc, oc, none⟩) C.nx C.cx) ∧ V'.cell? ⟨g, j * 11 + 1, none⟩ = some (.int .i64 fn) ∧ V'.cell? ⟨bc, oc + fn * 5, none⟩ = some (.int .i64 z0) ∧ V'.cell? ⟨bc, oc + fn * 5 + 1, none⟩ = some (.int .i64 z1) ∧ V'.cell? ⟨bc, oc + fn * 5 + 2, none⟩ = some (.slice D2 k2 d2) ∧ V'.cell? ⟨bc, oc + fn * 5 + 3, none⟩ = some (.slice D3 k3 d3) ∧ V'.cell? ⟨bc, oc + fn * 5 + 4, none⟩ = some (.slice D4 k4 d4)) (exact hS.out _ (show Below w.heap.size w _ by exact beloA)) (fail)
  clear q0 q1 q2 q3 q4 q5 q6
  obtain ⟨W, hW⟩ : ∃ W, W = (w.alloc (.cells #[.int .i64 z0, .int .i64 z1, .slice D2 k2 d2, .slice D3 k3 d3, .slice D4 k4 d4] 78)).drew := ⟨_, rfl⟩
  have hbW : Below w.heap.size w W := by rw [hW]; exact belA
  have hzW : w.heap.size < W.heap.size := by rw [hW]; simp
  obtain ⟨b4, o4, a0, a1, a2, eD, _, hb4l, hl4, _, _, ia2, d0, d1, dd2⟩ := Row_at (kW.below hbW (Nat.le_refl _)) hrm
  have hpv : padOf t4 (r : Int) = a2 := by unfold padOf; rw [show ((r : Int)).toNat = r from rfl]; simp [List.getD, hrl, hl4]
  replace HP := Lib.hid (HP.out.trans hpv)
  have hS2 := Lib.hid (show ∀ V', Below W.heap.size W V' → V'.cell? ⟨w.heap.size, 4, none⟩ = some (.slice D4 k4 d4) ∧ V'.cell? ⟨g, j * 11 + 2, none⟩ = some (.int .i64 f.2.2.1) ∧ V'.cell? ⟨b4, o4 + r * 3 + 2, none⟩ = some (.int .i64 a2) from fun V' hV => ⟨below_cell hV (by rw [hW]; simp [go_sem]), below_cell hV (below_cell hbW c2), below_cell hV dd2⟩)
  have kW2 := kW.below hbW (Nat.le_refl _)
  have hb4W : b4 < W.heap.size := by omega
  have hgW : g < W.heap.size := by omega
  subst eD
  rw [← hW]
  clear hW dd2 d0 d1 hpv hl4 c2 u0 u1 u2 u3 u4 m0 c1
  obtain ⟨q0, q1, q2⟩ := hS2.out W (Below.refl _ _)
  go_wp2_with fail
  go_region_held3 (fun V' => V'.cell? ⟨w.heap.size, 4, none⟩ = some (.slice (some ⟨b4, o4, none⟩) k4 d4) ∧ V'.cell? ⟨g, j * 11 + 2, none⟩ = some (.int .i64 f.2.2.1) ∧ V'.cell? ⟨b4, o4 + r * 3 + 2, none⟩ = some (.int .i64 a2)) (exact hS2.out _ (show Below W.heap.size W _ by exact beloA))
    (first | (go_at_call 91; ((with_reducible refine (implRowOf _ 0 w.heap.size (some ⟨b4, o4, none⟩) k4 d4 t4 f.2.2.1 (kW2.below (show Below W.heap.size W _ by exact beloA) (by omega)) (by first | omega | (simp; done) | (simp; omega))).mono ?_); rintro e w5 ⟨rfl, hb5⟩; rw [HRI.out]; have bb : Below W.heap.size W w5 := (by exact beloA); have z5 := bb.size)))
  go_wp2_with fail
  go_ret
  exact ⟨by rw [HP.out]; rfl, below_tr hbW (bb.mono (Nat.le_of_lt hzW))⟩
/-- Frame j is put anew. -/
def RetPut (C : Cfg) (g n c : Nat) (s : MS) (w : World) (e : Ending) (w' : World) : Prop := e = .returned (.tuple #[]) ∧ MM C w' (.slice (some ⟨g, 0, none⟩) n c) s
set_option maxHeartbeats 4000000 in
theorem implRaise (C : Cfg) (w : World) (g n c : Nat) (s : MS) (f : Frame) (m a : Int) (hm : m = 2 ∨ m = 3) (ha : I64 a) (h : MM C w (.slice (some ⟨g, 0, none⟩) n c) s) (hj : s.fs.reverse[n - 1]? = some f) (h0 : 0 < n) (h1 : n ≤ 1000000) (hnc : n ≤ c) (hcm : c ≤ 9223372036854775807) (hfn : 0 ≤ f.2.1 ∧ f.2.1 < (C.x.length : Int))
    (hr : ∃ r, r < (fCode C.x f).2.2.2.2.length ∧ idxW (inRow f.2.2.1) (fCode C.x f).2.2.2.2 = (r : Int)) (hz : C.x.length ≤ 1048576) (hz2 : (fCode C.x f).2.2.2.2.length ≤ 1048576) (hpa : I64 (padFr C.x f)) :
    Calls Tryz.prog 53 #[.pointer (some ⟨C.M, 0, none⟩), .int .i64 m, .int .i64 a] w (RetPut C g n c (s.put (n - 1) (raiseFr C.x f m a)) w) := by
  go_enter Tryz.func53, Tryz.ntmps53
  go_wp2_with fail
  refine (implTop C w g n c s h h0 h1 hnc hcm).mono ?_
  rintro e w1 ⟨rfl, k1, rfl⟩
  have h2 := h.drewN k1
  obtain ⟨v3, v4, v5, F3, F4, F5, pre, post, ho⟩ := h2.opg hj
  have fv := ho.fv
  have fz3 := fv.fz ((n - 1) * 11 + 3)
  have fz7 := fv.fz ((n - 1) * 11 + 7)
  have fz8 := fv.fz ((n - 1) * 11 + 8)
  have fz9 := fv.fz ((n - 1) * 11 + 9)
  have fz2 := fv.fz ((n - 1) * 11 + 2)
  have c3 := fv.c3
  have c7 := fv.c7
  have c8 := fv.c8
  have c9 := fv.c9
  have c2 := fv.c2
  clear ho fv
  have i2 : I64 2 := by unfold I64; omega
  have i3 : I64 3 := by unfold I64; omega
  have H2 := Lib.hid h2
  clear h h2
  rcases hm with rfl | rfl
  · go_wp2_with fail
    have h3 := ((H2.out.pMode hj i2).pVal (MS.put_get hj) ha).pNil (MS.put_get (MS.put_get hj))
    rw [MS.put_put, MS.put_put] at h3
    have hj3 := MS.put_get (f := fGo (fVal (fMode f 2) a) f.2.2.1 []) hj
    refine (show Calls _ _ _ _ (RetIx (padFr C.x f) _) from implPadAt C _ g n c _ (n - 1) (fGo (fVal (fMode f 2) a) f.2.2.1 []) h3 hj3 hfn hr hz hz2).mono ?_
    rintro e w2 ⟨rfl, hb⟩
    have h5 := h3.keep hb
    obtain ⟨u3, u4, u5, E3, E4, E5, pre', post', ho⟩ := h5.opg hj3
    have fv := ho.fv
    have y2 := fv.c2
    have z2 := fv.fz ((n - 1) * 11 + 2)
    have h4 := h5.pAt hj3 (a := padFr C.x f) hpa
    rw [MS.put_put] at h4
    have H4 := Lib.hid h4
    clear h3 h4 h5 hb ho fv c2 c3 c7 c8 c9 fz2 fz3 fz7 fz8 fz9 hj3
    go_wp2_with fail
    go_end0
    exact ⟨rfl, H4.out⟩
  · go_wp2_with fail
    have h3 := (((H2.out.pMode hj i3).pVal (MS.put_get hj) ha).pNil (MS.put_get (MS.put_get hj))).pBase (MS.put_get (MS.put_get (MS.put_get hj))) i3
    rw [MS.put_put, MS.put_put, MS.put_put] at h3
    have hj3 := MS.put_get (f := fBase (fGo (fVal (fMode f 3) a) f.2.2.1 []) 3) hj
    refine (show Calls _ _ _ _ (RetIx (padFr C.x f) _) from implPadAt C _ g n c _ (n - 1) (fBase (fGo (fVal (fMode f 3) a) f.2.2.1 []) 3) h3 hj3 hfn hr hz hz2).mono ?_
    rintro e w2 ⟨rfl, hb⟩
    have h5 := h3.keep hb
    obtain ⟨u3, u4, u5, E3, E4, E5, pre', post', ho⟩ := h5.opg hj3
    have fv := ho.fv
    have y2 := fv.c2
    have z2 := fv.fz ((n - 1) * 11 + 2)
    have h4 := h5.pAt hj3 (a := padFr C.x f) hpa
    rw [MS.put_put] at h4
    have H4 := Lib.hid h4
    clear h3 h4 h5 hb ho fv c2 c3 c7 c8 c9 fz2 fz3 fz7 fz8 fz9 hj3
    go_wp2_with fail
    go_end0
    exact ⟨rfl, H4.out⟩
end Go.Proofs.YtgdeclmciflmpaaGreat

/- The machine's methods note and call, our side: walks. -/
set_option linter.unusedVariables false
set_option linter.unusedSimpArgs false
set_option maxRecDepth 100000
namespace Go.Proofs.YtgdeclmciflmpaaGreat
open Go.RowKit
attribute [local irreducible] wpList
theorem cell_newL {w : World} {g : Nat} (cs : List Value) (t : TypeId) (hg : w.heap.size = g) : ∀ j v, cs[j]? = some v → (w.alloc (.cells cs.toArray t)).cell? ((⟨g, 0, none⟩ : Addr).add j) = some v := by
  intro j v h
  subst hg
  exact World.news_of_block (fr := (0, 0)) (heap_alloc_new w _) j v (by simpa using h)
section
variable {C : Cfg} {w : World} {vf : Value} {s : MS}
theorem MM.apM (h : MM C w vf s) {k : Nat} (hk : k ∈ C.D) : k < w.heap.size ∧ k ≠ C.M := by
  obtain ⟨Ff, Ft, Fn, vt, vn, h⟩ := h
  obtain ⟨a, b⟩ := h.ap k hk
  exact ⟨a, fun e => b (e ▸ List.mem_cons_self ..)⟩
theorem MM.apF (h : MM C w vf s) {k : Nat} (hk : k ∈ C.D) : vf.ownBlock ≠ some k := by
  obtain ⟨Ff, Ft, Fn, vt, vn, h⟩ := h
  exact fun e => (h.ap k hk).2 (List.mem_cons_of_mem _ (List.mem_append_left _ (h.frs.ownB k e)))
theorem MM.apN (h : MM C w vf s) {k : Nat} (hk : k ∈ C.D) {v : Value} (hc : w.cell? ⟨C.M, 9, none⟩ = some v) : v.ownBlock ≠ some k := by
  obtain ⟨Ff, Ft, Fn, vt, vn, h⟩ := h
  have e := h.mv.m9
  rw [hc] at e
  injection e with e
  subst e
  exact fun e => (h.ap k hk).2 (List.mem_cons_of_mem _ (List.mem_append_right _ (List.mem_append_right _ (h.notes.ownB k e))))
theorem MM.apT (h : MM C w vf s) {k : Nat} (hk : k ∈ C.D) {v : Value} (hc : w.cell? ⟨C.M, 4, none⟩ = some v) : v.ownBlock ≠ some k := by
  obtain ⟨Ff, Ft, Fn, vt, vn, h⟩ := h
  have e := h.mv.m4
  rw [hc] at e
  injection e with e
  subst e
  exact fun e => (h.ap k hk).2 (List.mem_cons_of_mem _ (List.mem_append_right _ (List.mem_append_left _ (h.tr.ownB k e))))
end
/-- What the machine does not hold is as it was. -/
def Apart (C : Cfg) (w w' : World) : Prop := ∀ k, k ∈ C.D → w'.heap[k]? = w.heap[k]?
/-- The machine as told. -/
def RetM (C : Cfg) (vf : Value) (s : MS) (w : World) (e : Ending) (w' : World) : Prop := e = .returned (.tuple #[]) ∧ MM C w' vf s ∧ Apart C w w'
theorem heap_setCell_ne (w : World) (p : Addr) (v : Value) {k : Nat} (h : k ≠ p.block) : (w.setCell p v).heap[k]? = w.heap[k]? := by first | exact Below.heap_setCell _ _ _ _ h | exact Below.heap_setCell _ _ _ _ (Ne.symm h)
theorem implNote (C : Cfg) (w : World) (vf : Value) (s : MS) (a b d : Int) (ia : I64 a) (ib : I64 b) (id : I64 d) (h : MM C w vf s) (hl : s.notes.length ≤ 4000000) :
    Calls Tryz.prog 57 #[.pointer (some ⟨C.M, 0, none⟩), .int .i64 a, .int .i64 b, .int .i64 d] w (RetM C vf { s with notes := s.notes ++ [(a, b, d)] } w) := by
  obtain ⟨inf, hif, hz0, hz1, hz2⟩ := info_parts Tryz.infoNote
  obtain ⟨vt, vn, mv⟩ := h.mv
  have fz := mv.fz 9
  have hM := mv.lt
  clear mv vt vn
  have hA : MM C (w.alloc (.cells #[.int .i64 a, .int .i64 b, .int .i64 d] 97)) vf s := h.keep (Below.alloc (Below.refl _ _) (Nat.le_refl _) _)
  obtain ⟨vn, xs, r', hx, hng, put⟩ := hA.noted
  have r9 : w.cell? ⟨C.M, 9, none⟩ = some vn := by rw [← r']; exact (World.cell?_of_block (a := ⟨C.M, 9, none⟩) (alloc_lt hM)).symm
  have HX := Lib.hid hx
  have PUT := Lib.hid put
  have HD := Lib.hid (show ∀ k, k ∈ C.D → k < w.heap.size ∧ k ≠ C.M ∧ vn.ownBlock ≠ some k from fun k hk => ⟨(h.apM hk).1, (h.apM hk).2, h.apN hk r9⟩)
  clear hx put h hA r'
  go_enter Tryz.func57, Tryz.ntmps57
  go_wp2_with (at_builtin; refine wpList_append_own_at _ rfl _ _ 28 rfl 0 97 inf (.agg #[.int .i64 0, .int .i64 0, .int .i64 0]) 3 24 Tryz.underlying28 hif hz0 hz1 hz2 rfl (by decide) vn s.notes.length xs rfl HX.out ⟨w.heap.size, 0, none⟩ 1 1 [.int .i64 a, .int .i64 b, .int .i64 d] rfl rfl (cell_newL [.int .i64 a, .int .i64 b, .int .i64 d] _ rfl) (by intro u hu; simp at hu; rcases hu with rfl | rfl | rfl <;> rfl) (by unfold maxLen; omega) (by omega) (Nat.zero_le _) ?_)
  intro v' wk hown hgr hnil hblk
  have hbk : wk.heap[C.M]? = w.heap[C.M]? := by
    rw [hgr.block C.M (by simp; omega) (fun e => hng e.symm)]; exact alloc_lt hM
  have hgk : C.M < wk.heap.size := Nat.lt_of_lt_of_le hM (Nat.le_trans (by simp) hgr.size)
  have r9k : wk.cell? ⟨C.M, 9, none⟩ = some vn := by rw [World.cell?_of_block (a := ⟨C.M, 9, none⟩) hbk]; exact r9
  have fzk : wk.frozen? ⟨C.M, 9, none⟩ = false := by rw [World.frozen?_of_block (a := ⟨C.M, 9, none⟩) hbk]; exact fz
  obtain ⟨Av, nv, cv, rfl⟩ := slice_form hown
  have HO := Lib.hid hown
  have HG := Lib.hid hgr
  have HB := Lib.hid hblk
  clear hown hgr hblk hnil hbk
  go_wp2_with fail
  go_end0
  refine ⟨rfl, PUT.out a b d wk _ ia ib id HO.out HG.out (by have := HB.out; rwa [size_alloc]), fun k hk => ?_⟩
  obtain ⟨d1, d2, d3⟩ := HD.out k hk
  exact (heap_setCell_ne _ _ _ d2).trans ((HG.out.block k (by simp; omega) (fun e => d3 e.symm)).trans (alloc_lt d1))
end Go.Proofs.YtgdeclmciflmpaaGreat
