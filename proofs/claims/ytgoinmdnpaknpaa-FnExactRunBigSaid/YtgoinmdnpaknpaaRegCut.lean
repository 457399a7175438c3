/- A region that draws its order and ends in an operation that waits for all others: that operation is cut off. Plain lemmas on regions. -/
import Derived.StillTail
import Derived.Deep.RegionHeld3
set_option linter.unusedVariables false
set_option linter.unusedSimpArgs false
namespace Go.Proofs.Ytgoinmdnpaknpaa
/-- What is asked behind the cut-off region: that the last operation runs. -/
def lastQ (P : Program) (ops : Array Oper) (n : Nat) (Q : Exit → Act → World → Prop) : Exit → Act → World → Prop
  | .normal, a, w => wpOp P ops Q n (Q .normal) a w
  | e, a, w => Q e a w
def headOps (ops : Array Oper) (n : Nat) : Array Oper := (ops.toList.take n).toArray
def edgesB (md : Region.Mode) (ops : Array Oper) (n : Nat) : Bool :=
  (List.range (n + 1)).all fun i => match ops[i]? with
    | some o => o.after.all (fun e => !Region.binds md e || decide (e.on < i)) && (match o.guard with | some (g, _) => decide (g < n) | none => true)
    | none => false
theorem edges_spec {md : Region.Mode} {ops : Array Oper} {n i : Nat} (h : edgesB md ops n = true) (hi : i < n + 1) : ∃ o, ops[i]? = some o ∧ (∀ e, e ∈ o.after → Region.binds md e = true → e.on < i) ∧ ∀ g b, o.guard = some (g, b) → g < n := by
  unfold edgesB at h
  have h1 := List.all_eq_true.1 h i (List.mem_range.2 hi)
  cases ho : ops[i]? with
  | none => rw [ho] at h1; cases h1
  | some o =>
    rw [ho] at h1
    simp only [Bool.and_eq_true, Array.all_eq_true_iff_forall_mem, decide_eq_true_eq, Bool.or_eq_true, Bool.not_eq_true'] at h1
    refine ⟨o, rfl, fun e he hb => (h1.1 e he).resolve_left (by rw [hb]; simp), fun g b hg => ?_⟩
    have h2 := h1.2
    rw [hg] at h2
    simpa using h2
theorem head_at {ops : Array Oper} {n i : Nat} (hi : i < n) : (headOps ops n)[i]? = ops[i]? := by
  unfold headOps
  simp [List.getElem?_take, hi]
theorem head_out {ops : Array Oper} {n i : Nat} (hi : n ≤ i) : (headOps ops n)[i]? = none := by
  unfold headOps
  simp [List.getElem?_take]; omega
theorem wanted_head {ops : Array Oper} {n : Nat} {o : Oper} {tmps : Array Value} (hg : ∀ g b, o.guard = some (g, b) → g < n) : Region.wanted o (yielded (headOps ops n) tmps) = Region.wanted o (yielded ops tmps) := by
  unfold Region.wanted
  cases h : o.guard with
  | none => rfl
  | some gb =>
    obtain ⟨g, b⟩ := gb
    simp only
    unfold yielded
    rw [head_at (hg g b h)]
section
variable {P : Program} {md : Region.Mode} {ops : Array Oper} {Q : Exit → Act → World → Prop} {n : Nat}
theorem opwp_last {m : Nat} {o : Oper} {a : Act} {w : World} {K : Act → World → Prop} (h : o.wp P a w K (lastQ P ops m Q)) : o.wp P a w K Q := by
  unfold Oper.wp at *
  generalize (execOp a.eval o).run P w = r at *
  cases r with
  | ok x w' =>
    cases x <;> simp only [Oper.upon] at h ⊢ <;>
      first
        | exact h
        | exact Calls.mono h (fun e w'' he => by cases e <;> first | exact he | (obtain ⟨a', w3, h'⟩ := he; exact ⟨a', w3, h'⟩))
  | halt x w' => cases x <;> simp only [Oper.upon] at h ⊢ <;> exact h
theorem wpOp_head {i : Nat} {a : Act} {w : World} {K : Act → World → Prop} (hi : i < n) (he : edgesB md ops n = true) (h : wpOp P (headOps ops n) (lastQ P ops n Q) i K a w) : wpOp P ops Q i K a w := by
  obtain ⟨o, ho, _, hg⟩ := edges_spec he (show i < n + 1 by omega)
  unfold wpOp at *
  rw [head_at hi, ho] at h
  rw [ho]
  simp only at h ⊢
  rw [wanted_head hg] at h
  split
  · rename_i hw
    rw [if_pos hw] at h
    rcases h with h | ⟨h1, a', w', h2⟩
    · exact .inl (opwp_last h)
    · exact .inr ⟨h1, a', w', h2⟩
  · rename_i hw
    rw [if_neg hw] at h
    exact h
def openN (l : List Bool) : Nat := l.countP (fun b => b == false)
theorem openN_set : ∀ {l : List Bool} {i : Nat} (hi : i < l.length), l[i] = false → openN (l.set i true) + 1 = openN l
  | b :: l, 0, hi, h => by
    unfold openN
    simp only [List.set_cons_zero, List.countP_cons]
    simp at h
    simp [h]
  | b :: l, i + 1, hi, h => by
    have := openN_set (l := l) (i := i) (by simpa using hi) (by simpa using h)
    unfold openN at this ⊢
    simp only [List.set_cons_succ, List.countP_cons]
    omega
theorem openN_zero : ∀ {l : List Bool}, openN l = 0 → ∀ i (hi : i < l.length), l[i] = true
  | b :: l, h, 0, _ => by
    unfold openN at h
    simp only [List.countP_cons] at h
    cases b
    · simp at h
    · rfl
  | b :: l, h, i + 1, hi => by
    have : openN l = 0 := by unfold openN at h ⊢; simp only [List.countP_cons] at h; omega
    simpa using openN_zero this i (by simpa using hi)
theorem openN_pos : ∀ {l : List Bool}, 0 < openN l → ∃ i, ∃ hi : i < l.length, l[i] = false ∧ ∀ j (hj : j < i), l[j]'(by omega) = true
  | b :: l, h => by
    cases b
    · exact ⟨0, by simp, rfl, fun j hj => by omega⟩
    · have : 0 < openN l := by unfold openN at h ⊢; simp only [List.countP_cons] at h; simpa using h
      obtain ⟨i, hi, h1, h2⟩ := openN_pos this
      refine ⟨i + 1, by simpa using hi, by simpa using h1, fun j hj => ?_⟩
      cases j with
      | zero => rfl
      | succ j => simpa using h2 j (by omega)
theorem push_getD {listed : Array Bool} {i : Nat} {d : Bool} (hi : i < listed.size) : (listed.push false).getD i d = listed.getD i d := by
  simp [Array.getD, hi, Nat.lt_succ_of_lt hi, Array.getElem_push, hi]
theorem ready_head {listed : Array Bool} {i : Nat} (hn : listed.size = n) (he : edgesB md ops n = true) (hi : i < n) (h : i ∈ Region.ready md ops (listed.push false)) : i ∈ Region.ready md (headOps ops n) listed := by
  rw [mem_ready] at *
  obtain ⟨h0, o, ho, hall⟩ := h
  obtain ⟨o', ho', hon, _⟩ := edges_spec he (show i < n + 1 by omega)
  have : o' = o := Option.some.inj (ho'.symm.trans ho)
  subst this
  rw [push_getD (by omega)] at h0
  refine ⟨h0, o', by rw [head_at hi]; exact ho, fun e hm hb => ?_⟩
  have := hall e hm hb
  rwa [push_getD (by have := hon e hm hb; omega)] at this
theorem wpAny_of_cut (he : edgesB md ops n = true) (hs : Region.sinkB md ops n = true) (hc : Region.chainB md ops n = true) (hz : ops.size = n + 1) :
    ∀ (fuel : Nat) (listed : Array Bool) (a : Act) (w : World), HeadInv md ops n (listed.push false) → listed.size = n → openN listed.toList = fuel → wpAny P md (headOps ops n) (lastQ P ops n Q) fuel listed a w → wpAny P md ops Q (fuel + 1) (listed.push false) a w := by
  intro fuel
  induction fuel with
  | zero =>
    intro listed a w inv hn ho h
    have hall : ∀ i, i < n → listed.getD i true = true := fun i hi => by
      have := openN_zero ho i (by simpa using (by omega : i < listed.size))
      simp [Array.getD, hn, hi] at this ⊢
      exact this
    obtain ⟨on, hon, hed, _⟩ := edges_spec he (show n < n + 1 by omega)
    have hr : n ∈ Region.ready md ops (listed.push false) := by
      rw [mem_ready]
      refine ⟨?_, on, hon, fun e hm hbd => ?_⟩
      · simp [Array.getD, hn, Array.getElem_push]
      · have hlt := hed e hm hbd
        rw [push_getD (by omega)]
        have := hall e.on hlt
        simp [Array.getD, hn, hlt] at this ⊢
        exact this
    refine ⟨fun h0 => (by rw [h0] at hr; cases hr), fun i hi => ?_⟩
    have hin : i = n := by
      rw [mem_ready] at hi
      obtain ⟨h0, o, ho', _⟩ := hi
      have hlt : i < ops.size := (Array.getElem?_eq_some_iff.1 ho').1
      rcases Nat.lt_or_ge i n with h1 | h1
      · rw [push_getD (by omega), hall i h1] at h0; cases h0
      · omega
    subst hin
    refine wpOp_mono (fun a' w' hq => ?_) h.2
    refine ⟨?_, hq⟩
    rw [List.eq_nil_iff_forall_not_mem]
    intro j hj
    rw [mem_ready] at hj
    obtain ⟨h0, o, ho', _⟩ := hj
    have hlt : j < ops.size := (Array.getElem?_eq_some_iff.1 ho').1
    rcases Nat.lt_or_ge j i with h1 | h1
    · rw [getD_set_ne true (by omega), push_getD (by omega), hall j h1] at h0; cases h0
    · have : j = i := by omega
      subst this
      simp [Array.getD, hn] at h0
  | succ fuel ih =>
    intro listed a w inv hn ho h
    obtain ⟨i0, hi0, hf0, hmin⟩ := openN_pos (l := listed.toList) (by omega)
    have hi0' : i0 < n := by rw [← hn]; simpa using hi0
    have hun : listed.getD i0 true = false := by simp [Array.getD, hn, hi0'] at hf0 ⊢; exact hf0
    have hlisted : ∀ j, j < i0 → listed.getD j false = true := fun j hj => by
      have := hmin j hj
      simp [Array.getD, hn, show j < n by omega] at this ⊢; exact this
    have hr0 : i0 ∈ Region.ready md ops (listed.push false) := by
      obtain ⟨o, hoo, hed, _⟩ := edges_spec he (show i0 < n + 1 by omega)
      rw [mem_ready]
      refine ⟨by rw [push_getD (by omega)]; exact hun, o, hoo, fun e hm hbd => ?_⟩
      have := hed e hm hbd
      rw [push_getD (by omega)]; exact hlisted e.on this
    refine ⟨fun h0 => (by rw [h0] at hr0; cases hr0), fun i hi => ?_⟩
    have hin : i < n := by
      rcases Nat.lt_or_ge i n with h1 | h1
      · exact h1
      · exact absurd hi (tail_waits hs hc (by omega) inv (n - i0) i0 rfl hi0' (by rw [push_getD (by omega)]; exact hun) i h1)
    have hrp := ready_head hn he hin hi
    have hset : (listed.push false).setIfInBounds i true = (listed.setIfInBounds i true).push false := by
      apply Array.toList_inj.1
      simp only [Array.toList_setIfInBounds, Array.toList_push]
      rw [List.set_append_left _ _ (by simpa using (by omega : i < listed.size))]
    have hunl : listed.getD i true = false := (mem_ready.1 hrp).1
    refine wpOp_mono (fun a' w' hq => ?_) (wpOp_head hin he (h.2 i hrp))
    rw [hset]
    refine ih (listed.setIfInBounds i true) a' w' ?_ (by simpa using hn) ?_ hq
    · rw [← hset]; exact inv.set hi hin
    · have hil : i < listed.toList.length := by simpa using (by omega : i < listed.size)
      have hfl : listed.toList[i] = false := by
        simp [Array.getD, hn, hin] at hunl ⊢; exact hunl
      have := openN_set hil hfl
      simp only [Array.toList_setIfInBounds]
      omega
/-- The region without its last operation is walked under S; then that operation. -/
theorem wp_region_cut {S : World → Prop} {id : Nat} {a : Act} {w : World} (n : Nat) (hm : P.follows .mixedOrders = true) (hB : (edgesB .any ops n && Region.sinkB .any ops n && Region.chainB .any ops n && ops.size == n + 1) = true) (hS : S w.drew)
    (h : S w.drew → wpAnyH P .any (headOps ops n) (lastQ P ops n Q) S n (Array.replicate n false) a w.drew) : (Code.region id ops true).wp P Q a w := by
  simp only [Bool.and_eq_true, beq_iff_eq] at hB
  obtain ⟨⟨⟨h1, h2⟩, h3⟩, h4⟩ := hB
  refine wp_region_any hm ?_
  have hrep : Array.replicate ops.size false = (Array.replicate n false).push false := by rw [h4, Array.replicate_succ]
  rw [h4] at hrep ⊢
  rw [hrep]
  refine wpAny_of_cut h1 h2 h3 h4 n _ a _ ?_ (by simp) (by unfold openN; simp [List.countP_replicate]) (wpAny_of_held _ _ _ _ (h hS))
  rw [← hrep]
  exact ⟨by simp [h4], fun j oj _ hl => (by rw [getD_replicate_false] at hl; cases hl), fun t ht ht' => (by
    have : t = n := by omega
    subst this
    simp [Array.getD])⟩
/-- The last operation, behind a name for what follows. -/
theorem lastQ_op {o : Oper} {a : Act} {w : World} (ho : ops[n]? = some o) (h : ∀ K : Act → World → Prop, (∀ a w, Q .normal a w → K a w) → if Region.wanted o (yielded ops a.tmps) = true then Oper.wp P o a w K Q else K (a.put o.dst undef) w) : lastQ P ops n Q .normal a w :=
  wpOp_step ho fun K hK => h K hK
/-- One plain operation of the region is taken first; its side conditions by their scripts. -/
theorem takeH {md : Region.Mode} {S : World → Prop} (i : Nat) {oi : Oper} {v : Value} {fuel : Nat} {listed l' : Array Bool} {a a' : Act} {w : World}
    (h : wpAnyH P md ops Q S fuel l' a' w)
    (hi : ops[i]? = some oi := by exact rfl)
    (hs : Region.noSelect ops = true := by kernel_rfl) (hf : Region.free md ops listed i = true := by kernel_rfl) (hr : (Region.ready md ops listed).contains i = true := by kernel_rfl)
    (hw : Region.wanted oi (yielded ops a.tmps) = true := by rfl)
    (hy : ∀ w, S w → (execOp a.eval oi).run P w = .ok (.value v) w := by (intro w hSw; (try dsimp only at hSw); go_simp; (try with_reducible rfl)))
    (hQ : ∀ c a w, Q (.panic c) (a.put oi.dst v) w → Q (.panic c) a w := by exact fun _ _ _ h => h)
    (hS : S w := by assumption)
    (hl : listed.setIfInBounds i true = l' := by ((try simp only [List.setIfInBounds_toArray, List.set_cons_zero, List.set_cons_succ]); exact rfl))
    (ha : a.put oi.dst v = a' := by ((try simp only [Act.put, List.getElem_toArray, List.getElem_cons_zero, List.getElem_cons_succ, List.setIfInBounds_toArray, List.set_cons_zero, List.set_cons_succ]); exact rfl)) :
    wpAnyH P md ops Q S (fuel + 1) listed a w := by
  subst hl; subst ha
  exact wpAnyH_take hi hs hf hr hQ (Or.inl ⟨hw, hy⟩) hS h
/-- An operation that its guard leaves out. -/
theorem takeG {md : Region.Mode} {S : World → Prop} (i : Nat) {oi : Oper} {fuel : Nat} {listed l' : Array Bool} {a a' : Act} {w : World}
    (h : wpAnyH P md ops Q S fuel l' a' w)
    (hi : ops[i]? = some oi := by exact rfl)
    (hs : Region.noSelect ops = true := by kernel_rfl) (hf : Region.free md ops listed i = true := by kernel_rfl) (hr : (Region.ready md ops listed).contains i = true := by kernel_rfl)
    (hw : Region.wanted oi (yielded ops a.tmps) = false := by rfl)
    (hQ : ∀ c a w, Q (.panic c) (a.put oi.dst undef) w → Q (.panic c) a w := by exact fun _ _ _ h => h)
    (hS : S w := by assumption)
    (hl : listed.setIfInBounds i true = l' := by ((try simp only [List.setIfInBounds_toArray, List.set_cons_zero, List.set_cons_succ]); exact rfl))
    (ha : a.put oi.dst undef = a' := by ((try simp only [Act.put, List.getElem_toArray, List.getElem_cons_zero, List.getElem_cons_succ, List.setIfInBounds_toArray, List.set_cons_zero, List.set_cons_succ]); exact rfl)) :
    wpAnyH P md ops Q S (fuel + 1) listed a w := by
  subst hl; subst ha
  exact wpAnyH_take hi hs hf hr hQ (Or.inr ⟨hw, rfl⟩) hS h
/-- A region that draws, one operation behind the other by a script. -/
theorem wp_region_hd {S : World → Prop} {id : Nat} {a : Act} {w : World} (n : Nat) (hm : P.follows .mixedOrders = true) (hn : (ops.size == n) = true) (hS : S w.drew)
    (h : S w.drew → wpAnyH P .any ops Q S n (Array.replicate n false) a w.drew) : (Code.region id ops true).wp P Q a w := by
  obtain rfl : ops.size = n := by simpa using hn
  exact wp_region_held hm (h hS)
end
end Go.Proofs.Ytgoinmdnpaknpaa
