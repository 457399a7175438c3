/- The row of a law: from a walk that returns true and leaves all old memory as it was. Plain lemmas. -/
import Derived.Test.YtkedpaopnnhinaaBase
import Derived.ProofKit
import Derived.Deep.Slices
import Derived.OpenShut
set_option linter.unusedVariables false
set_option linter.unusedSimpArgs false
namespace Go.Proofs.Ytkedpaopnnhinaa
open Go.ChangeShapes Go.WideShapes Go.ChangeAt Go.RowKit

theorem Try.own : ownKnob Try.prog.godebug = none := by kernel_rfl
theorem Try.laidOut : laidOutB Try.prog = true := by kernel_rfl

section
variable {H : Type} {enc : TypeId × Value → H} {P : Program}
theorem trodAll_below {W W' : World} (hl : laidOutB P = true) (hb : Below W.heap.size W W') (sp : Nat → Bool) : ∀ (ts : List TypeId) (vs : List Value) (ds : List (DataW H)) (ps : List MemPlace),
    (∀ t, t ∈ ts → P.readableRec t = true ∧ t < P.types.size) → DataW.TrodAll enc P W 0 (fun _ => true) true ts vs ds ps → (∀ x, x ∈ ps → x.block < W.heap.size) → (∀ x, x ∈ ps → sp x.block = true) →
    DataW.TrodAll enc P W' 0 sp true ts vs ds ps
  | [], [], [], ps, _, h, _, _ => h
  | t :: ts, v :: vs, d :: ds, ps, hr, h, hlt, hsp => by
    obtain ⟨p, q, h1, h2, rfl⟩ := h
    have ht := hr t (List.mem_cons_self ..)
    refine ⟨p, q, WideElems.Trod_stays hl ht.1 ht.2 h1 (fun x hx => hb.same (hlt x (List.mem_append_left _ hx))) (fun x hx => hsp x (List.mem_append_left _ hx)), ?_, rfl⟩
    exact trodAll_below hl hb sp ts vs ds q (fun t h => hr t (List.mem_cons_of_mem _ h)) h2 (fun x hx => hlt x (List.mem_append_right _ hx)) (fun x hx => hsp x (List.mem_append_right _ hx))
  | [], [], _ :: _, _, _, h, _, _ => h.elim
  | [], _ :: _, [], _, _, h, _, _ => h.elim
  | [], _ :: _, _ :: _, _, _, h, _, _ => h.elim
  | _ :: _, [], [], _, _, h, _, _ => h.elim
  | _ :: _, [], _ :: _, _, _, h, _, _ => h.elim
  | _ :: _, _ :: _, [], _, _, h, _, _ => h.elim

theorem law_post {f : Func} {s : ChangeSpec} {apart fresh handsOn again : Bool} {W W' : World} {args : Array Value} {ds gs : List (DataW H)} {before : List MemPlace} {T : TypeId}
    (hW : DataW.Whole enc P f.params.toList s.vars apart W args.toList ds gs before) (hv : s.vars = []) (hl : laidOutB P = true) (hr : ∀ t, t ∈ f.params.toList → P.readableRec t = true ∧ t < P.types.size)
    (hT : f.resultTypes = #[T]) (hTu : P.underlying T = some .bool) (hs : s.fn H (ds ++ gs) = { results := [.lit (.bool true)], args := ds }) (hb : Below W.heap.size W W') :
    s.post enc P f apart fresh handsOn again W args (.bool true) W' := by
  have hW' := hW
  obtain ⟨p, q, hA, hV, rfl, hz, hn⟩ := hW
  have hq : q = [] ∧ gs = [] := by
    rw [hv] at hV
    cases gs with
    | nil => exact ⟨hV, rfl⟩
    | cons => exact hV.elim
  obtain ⟨rfl, rfl⟩ := hq
  simp only [List.append_nil] at hs hW' hz hn ⊢
  have hlt : ∀ x ∈ p, x.block < W.heap.size := fun x hx => hW'.lt x hx
  have hres : ∀ (b : Nat) (sp : Nat → Bool) (hd : Bool), DataW.TrodAll enc P W' b sp hd f.resultTypes.toList ((Value.bool true).resultList f.resultTypes.size) (s.fn H ds).results [] := by
    intro b sp hd
    rw [hs, hT]
    exact trodAll_mk1 (shut_bool hTu true)
  have hargs : ∀ sp : Nat → Bool, (∀ x ∈ p, sp x.block = true) → DataW.TrodAll enc P W' 0 sp true f.params.toList args.toList (s.fn H ds).args p := by
    intro sp hsp
    rw [hs]
    exact trodAll_below hl hb sp _ _ _ _ hr hA hlt hsp
  have hvars : ∀ sp : Nat → Bool, DataW.TrodVars enc P W' sp s.vars (s.fn H ds).vars [] := by
    intro sp
    rw [hs, hv]
    rfl
  have hold : ∀ x ∈ p, (fun b => decide (b < W.heap.size)) x.block = true := fun x hx => by simpa using hlt x hx
  refine ⟨ds, [], p, [], p, [], hW', ?_, ?_, ?_, World.keptBut_mono (fun x hx => ⟨hx, Or.inr (Or.inl hx)⟩) (hb.frame (· ∈ p)), fun _ => ⟨?_, ?_⟩⟩
  · simp only [List.append_nil]; exact hres _ _ _
  · simp only [List.append_nil]; exact hargs _ hold
  · simp only [List.append_nil]; exact hvars _
  · intro j t r h1 h2
    rw [hT] at h1 h2
    match j, h1, h2 with
    | 0, h1, h2 =>
      simp [Value.resultList] at h1 h2
      subst h1 h2
      exact okWide_bool_mk hTu true
    | j + 1, h1, _ => simp at h1
  · refine ⟨(s.fn H ds).results ++ ds, (s.fn H ds).vars, ([] ++ p) ++ [], ⟨[] ++ p, [], trodAll_append ?_ (hres _ _ _), hvars _, rfl, ?_, ?_⟩, ?_⟩
    · have := hargs (fun _ => true) (fun _ _ => rfl)
      rwa [hs] at this
    · intro b off hp
      have hin : MemPlace.cell b off ∈ p := by simpa using hp
      rw [hb.frozen (hlt _ hin)]
      exact hz b off hin
    · intro ha
      simpa using hn ha
    · intro x hx _
      simpa using hx
end

/-! ### an argument's reading, as the relation of the words for memory -/
/-- Whatever reads as a datum of type t stands in R to some a. -/
def Rd {α : Type} (P : Program) (t : TypeId) (R : Rp α) : Prop :=
  ∀ (H : Type) (enc : TypeId × Value → H) (W : World) (held : Bool) (fuel : Nat) (cs : List Value) (x : DataW H × List MemPlace), DataW.trod enc P W 0 (fun _ => true) held fuel t cs = some x → ∃ a, R.rel W 0 W.heap.size cs a
theorem rd_int {P : Program} {t : TypeId} (h : P.underlying t = some (.int .i64)) : Rd P t intR := by
  intro H enc W held fuel cs x hx
  obtain ⟨n, rfl, _, hw⟩ := DataW.trod_int h hx
  refine ⟨n, rfl, ?_⟩
  have := bounds_i64 hw
  exact this
theorem rd_bool {P : Program} {t : TypeId} (h : P.underlying t = some .bool) : Rd P t boolR := by
  intro H enc W held fuel cs x hx
  obtain ⟨b, rfl, _⟩ := DataW.trod_bool h hx
  exact ⟨b, rfl, trivial⟩
theorem rd_slice {α : Type} {P : Program} {t e E : TypeId} {R : Rp α} (h : P.underlying t = some (.slice e)) (hc : P.cellsOf e = R.size) (hpos : 0 < R.size) (hR : Rd P e R) : Rd P t (sliceR E R) := by
  intro H enc W held fuel cs x hx
  rcases Go.Deep.open_slice h hx with ⟨rfl, _⟩ | ⟨a, len, cap, m, n, D, Pl, rfl, _, hl, hm, hmm, _, hel⟩
  · exact ⟨[], none, 0, 0, rfl, Sl.nil_ _ _ _ _⟩
  · have hel' : ∀ i : Fin len, ∃ y : α, ∃ cs, R.rel W 0 W.heap.size cs y ∧ ∀ j, j < R.size → W.cell? ((a.add (i.1 * R.size)).add j) = cs[j]? := by
      intro i
      obtain ⟨cs', h1, h2⟩ := hel i.1 (by rw [hmm]; have := i.2; simp; omega)
      obtain ⟨y, hy⟩ := hR H enc W held n cs' _ h2
      obtain ⟨_, _, h3⟩ := World.cells?_some h1
      rw [hc] at h3
      exact ⟨y, cs', hy, h3⟩
    refine ⟨(List.finRange len).map fun i => Classical.choose (hel' i), some a, len, cap, rfl, by simp, hl, hm, fun hp => ?_⟩
    obtain ⟨cs0, hr0, hc0⟩ := Classical.choose_spec (hel' ⟨0, hp⟩)
    have hl0 := R.len hr0
    have h00 := hc0 0 hpos
    rw [List.getElem?_eq_getElem (by omega)] at h00
    have ha0 : (a.add (0 * R.size)).add 0 = a := by simp [Addr.add]
    rw [ha0] at h00
    have hsp : a.spot = none := by
      rcases hs : a.spot with _ | s
      · rfl
      · exfalso
        unfold World.cell? at h00
        split at h00
        · simp [hs] at h00
        · simp at h00
    have hlt := World.block_lt_of_cell? W a h00
    obtain ⟨b, off, sp⟩ := a
    simp only at hsp
    subst hsp
    refine ⟨b, off, rfl, Nat.zero_le _, hlt, fun i hi => ?_⟩
    have hi' : i < len := by simpa using hi
    obtain ⟨cs, hr, hcs⟩ := Classical.choose_spec (hel' ⟨i, hi'⟩)
    refine ⟨cs, by simpa using hr, fun j hj => ?_⟩
    have hj' : j < R.size := by rw [← R.len hr]; exact hj
    have := hcs j hj'
    rw [List.getElem?_eq_getElem hj] at this
    rw [← this, Go.Deep.add_add]
    congr 1
    unfold Addr.add
    split <;> simp_all <;> omega
/-- The fields from offset o on. -/
def RdF {α : Type} (P : Program) (o : Nat) (fs : List Field) (R : Rp α) : Prop :=
  ∀ (H : Type) (enc : TypeId × Value → H) (W : World) (held : Bool) (fuel : Nat) (cs : List Value), cs.length = R.size →
    (∀ f, f ∈ fs → ∃ x, DataW.trod enc P W 0 (fun _ => true) held fuel f.type ((cs.drop (f.offset - o)).take (P.cellsOf f.type)) = some x) → ∃ a, R.rel W 0 W.heap.size cs a
theorem rdF_one {α : Type} {P : Program} {o : Nat} {f : Field} {R : Rp α} (ho : f.offset = o) (hc : P.cellsOf f.type = R.size) (hR : Rd P f.type R) : RdF P o [f] R := by
  intro H enc W held fuel cs hl hf
  obtain ⟨x, hx⟩ := hf f (List.mem_cons_self ..)
  rw [ho, Nat.sub_self, hc, List.drop_zero, List.take_of_length_le (by omega)] at hx
  exact hR H enc W held fuel cs x hx
theorem rdF_cons {α β : Type} {P : Program} {o : Nat} {f : Field} {fs : List Field} {R : Rp α} {S : Rp β} (ho : f.offset = o) (hc : P.cellsOf f.type = R.size) (hR : Rd P f.type R) (hS : RdF P (o + R.size) fs S)
    (hge : ∀ g, g ∈ fs → o + R.size ≤ g.offset) : RdF P o (f :: fs) (pairR R S) := by
  intro H enc W held fuel cs hl hf
  obtain ⟨x, hx⟩ := hf f (List.mem_cons_self ..)
  have hl' : cs.length = R.size + S.size := hl
  rw [ho, Nat.sub_self, hc, List.drop_zero] at hx
  obtain ⟨a, ha⟩ := hR H enc W held fuel _ x hx
  obtain ⟨b, hb⟩ := hS H enc W held fuel (cs.drop R.size) (by rw [List.length_drop]; omega) (fun g hg => by
    obtain ⟨y, hy⟩ := hf g (List.mem_cons_of_mem _ hg)
    refine ⟨y, ?_⟩
    rw [List.drop_drop]
    have := hge g hg
    rw [show R.size + (g.offset - (o + R.size)) = g.offset - o by omega]
    exact hy)
  exact ⟨(a, b), cs.take R.size, cs.drop R.size, (List.take_append_drop _ _).symm, ha, hb⟩
theorem rd_struct {α : Type} {P : Program} {t : TypeId} {fs : Array Field} {R : Rp α} (h : P.underlying t = some (.struct fs)) (hc : P.cellsOf t = R.size) (hF : RdF P 0 fs.toList R) : Rd P t R := by
  intro H enc W held fuel cs x hx
  obtain ⟨xs, n, _, _, hl, hxl, hg⟩ := DataW.trod_struct h hx
  refine hF H enc W held n cs (by rw [hl, hc]) fun f hf => ?_
  obtain ⟨i, hi, rfl⟩ := List.getElem_of_mem hf
  have hi' : i < fs.size := by simpa using hi
  refine ⟨xs[i]'(by omega), ?_⟩
  have := hg i _ (Array.getElem?_eq_getElem hi')
  rw [List.getElem?_eq_getElem (by omega)] at this
  simpa using this
theorem rd_arg_slice {α : Type} {P : Program} {t e E : TypeId} {R : Rp α} (hR : Rd P t (sliceR E R)) (h : P.underlying t = some (.slice e)) {W : World} {r : Reach} {b0 : Nat} {v : Value} (hv : Value.okWide P W r b0 t v)
    {H : Type} {enc : TypeId × Value → H} {d : DataW H} {p : List MemPlace} (hd : DataW.Trod enc P W 0 (fun _ => true) true t v d p) : ∃ A n c l, v = .slice A n c ∧ Sl R W 0 W.heap.size A n c l := by
  obtain ⟨a0, len, cap, rfl⟩ := okWide_slice h hv
  obtain ⟨fuel, hf⟩ := hd
  obtain ⟨l, A, n, c, h1, h2⟩ := hR H enc W true fuel _ _ hf
  simp [Value.cells] at h1
  obtain ⟨rfl, rfl, rfl⟩ := h1
  exact ⟨_, _, _, l, rfl, h2⟩
theorem rd_arg_agg {α : Type} {P : Program} {t : TypeId} {fs : Array Field} {R : Rp α} (hR : Rd P t R) (h : P.underlying t = some (.struct fs)) {W : World} {r : Reach} {b0 : Nat} {v : Value} (hv : Value.okWide P W r b0 t v)
    {H : Type} {enc : TypeId × Value → H} {d : DataW H} {p : List MemPlace} (hd : DataW.Trod enc P W 0 (fun _ => true) true t v d p) : ∃ cs a, v = .agg cs ∧ R.rel W 0 W.heap.size cs.toList a := by
  obtain ⟨cs, rfl, hsz⟩ := okWide_struct h hv
  obtain ⟨fuel, hf⟩ := hd
  obtain ⟨a, ha⟩ := hR H enc W true fuel _ _ hf
  exact ⟨cs, a, rfl, ha⟩

theorem rdInts : Rd Try.prog 33 (sliceR 3 intR) := rd_slice Try.underlying33 (by kernel_rfl) (by decide) (rd_int Try.underlying3)
theorem rdNote : Rd Try.prog 122 (pairR intR (pairR intR intR)) :=
  rd_struct Try.underlying122 (by kernel_rfl) (rdF_cons rfl (by kernel_rfl) (rd_int Try.underlying3) (rdF_cons rfl (by kernel_rfl) (rd_int Try.underlying3) (rdF_one rfl (by kernel_rfl) (rd_int Try.underlying3)) (by decide)) (by decide))
theorem rdNotes : Rd Try.prog 25 (sliceR 119 (pairR intR (pairR intR intR))) := rd_slice Try.underlying25 (by kernel_rfl) (by decide) rdNote
end Go.Proofs.Ytkedpaopnnhinaa
