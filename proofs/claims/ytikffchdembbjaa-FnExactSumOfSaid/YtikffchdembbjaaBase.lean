/- Words for memory: how data lie in cells; a slice that reads as a list; a slice that owns its list; what a call leaves as it was. Plain lemmas, no program. -/
import Derived.Test.YtikffchdembbjaaRows
import Derived.WalkKit
import Derived.WalkSpells
import Derived.Lib.Hide
import Derived.Deep.Draws
set_option linter.unusedVariables false
set_option linter.unusedSimpArgs false
namespace Go.Proofs.Ytikffchdembbjaa
open Go.RowKit

/-- Within the bounds of an int. -/
def I64 (n : Int) : Prop := -9223372036854775808 ≤ n ∧ n ≤ 9223372036854775807

/-! ### three lists, place by place -/
def All3 {α β γ : Type} (P : α → β → γ → Prop) : List α → List β → List γ → Prop
  | [], [], [] => True
  | a :: xs, b :: ys, c :: zs => P a b c ∧ All3 P xs ys zs
  | _, _, _ => False
theorem All3.len {α β γ : Type} {P : α → β → γ → Prop} : ∀ {xs : List α} {ys : List β} {zs : List γ}, All3 P xs ys zs → xs.length = zs.length ∧ ys.length = zs.length
  | [], [], [], _ => ⟨rfl, rfl⟩
  | _ :: xs, _ :: ys, _ :: zs, h => by have := All3.len (xs := xs) (ys := ys) (zs := zs) h.2; simp [this]
  | [], [], _ :: _, h => h.elim
  | [], _ :: _, [], h => h.elim
  | [], _ :: _, _ :: _, h => h.elim
  | _ :: _, [], [], h => h.elim
  | _ :: _, [], _ :: _, h => h.elim
  | _ :: _, _ :: _, [], h => h.elim
theorem All3.snoc {α β γ : Type} {P : α → β → γ → Prop} {a : α} {b : β} {c : γ} (hp : P a b c) : ∀ {xs : List α} {ys : List β} {zs : List γ}, All3 P xs ys zs → All3 P (xs ++ [a]) (ys ++ [b]) (zs ++ [c])
  | [], [], [], _ => ⟨hp, trivial⟩
  | _ :: xs, _ :: ys, _ :: zs, h => ⟨h.1, All3.snoc hp (xs := xs) (ys := ys) (zs := zs) h.2⟩
  | [], [], _ :: _, h => h.elim
  | [], _ :: _, [], h => h.elim
  | [], _ :: _, _ :: _, h => h.elim
  | _ :: _, [], [], h => h.elim
  | _ :: _, [], _ :: _, h => h.elim
  | _ :: _, _ :: _, [], h => h.elim
theorem All3.mono {α β γ : Type} {P Q : α → β → γ → Prop} : ∀ {xs : List α} {ys : List β} {zs : List γ}, (∀ a b c, a ∈ xs → P a b c → Q a b c) → All3 P xs ys zs → All3 Q xs ys zs
  | [], [], [], _, _ => trivial
  | a :: xs, _ :: ys, _ :: zs, hq, h => ⟨hq _ _ _ (List.mem_cons_self ..) h.1, All3.mono (xs := xs) (ys := ys) (zs := zs) (fun x y z hx => hq x y z (List.mem_cons_of_mem _ hx)) h.2⟩
  | [], [], _ :: _, _, h => h.elim
  | [], _ :: _, [], _, h => h.elim
  | [], _ :: _, _ :: _, _, h => h.elim
  | _ :: _, [], [], _, h => h.elim
  | _ :: _, [], _ :: _, _, h => h.elim
  | _ :: _, _ :: _, [], _, h => h.elim
theorem All3.get {α β γ : Type} {P : α → β → γ → Prop} : ∀ {xs : List α} {ys : List β} {zs : List γ} (_ : All3 P xs ys zs) (i : Nat) (ha : i < xs.length) (hb : i < ys.length) (hc : i < zs.length), P xs[i] ys[i] zs[i]
  | [], [], [], _, _, h, _, _ => absurd h (by simp)
  | _ :: _, _ :: _, _ :: _, h, 0, _, _, _ => h.1
  | _ :: xs, _ :: ys, _ :: zs, h, i + 1, ha, hb, hc => All3.get (xs := xs) (ys := ys) (zs := zs) h.2 i (by simpa using ha) (by simpa using hb) (by simpa using hc)
  | [], [], _ :: _, h, _, _, _, _ => h.elim
  | [], _ :: _, [], h, _, _, _, _ => h.elim
  | [], _ :: _, _ :: _, h, _, _, _, _ => h.elim
  | _ :: _, [], [], h, _, _, _, _ => h.elim
  | _ :: _, [], _ :: _, h, _, _, _, _ => h.elim
  | _ :: _, _ :: _, [], h, _, _, _, _ => h.elim

/-- How a datum lies in cells. rel: read alone (the cells may point to blocks from lo to below hi, shared or not). own: the datum owns just the blocks F. -/
structure Rp (α : Type) where
  size : Nat
  rel : World → Nat → Nat → List Value → α → Prop
  own : World → List Nat → List Value → α → Prop
  len : ∀ {w lo hi cs x}, rel w lo hi cs x → cs.length = size
  ownLen : ∀ {w F cs x}, own w F cs x → cs.length = size
  keep : ∀ {w w' : World} {lo hi lo' hi' cs x}, lo' ≤ lo → hi ≤ hi' → (∀ k, lo ≤ k → k < hi → w'.heap[k]? = w.heap[k]?) → rel w lo hi cs x → rel w' lo' hi' cs x
  ownKeep : ∀ {w w' : World} {F cs x}, (∀ k, k ∈ F → w'.heap[k]? = w.heap[k]?) → own w F cs x → own w' F cs x
  ownRel : ∀ {w F lo hi cs x}, own w F cs x → (∀ k, k ∈ F → lo ≤ k ∧ k < hi) → rel w lo hi cs x
  ownLt : ∀ {w F cs x}, own w F cs x → ∀ k, k ∈ F → k < w.heap.size

/-- A datum without pointers. -/
def flatR {α : Type} (size : Nat) (enc : α → List Value) (wf : α → Prop) (h : ∀ x, (enc x).length = size) : Rp α where
  size := size
  rel := fun _ _ _ cs x => cs = enc x ∧ wf x
  own := fun _ F cs x => F = [] ∧ cs = enc x ∧ wf x
  len := fun ⟨e, _⟩ => by rw [e]; exact h _
  ownLen := fun ⟨_, e, _⟩ => by rw [e]; exact h _
  keep := fun _ _ _ h => h
  ownKeep := fun _ h => h
  ownRel := fun ⟨_, h⟩ _ => h
  ownLt := fun ⟨e, _⟩ k hk => by subst e; simp at hk
def intR : Rp Int := flatR 1 (fun x => [.int .i64 x]) I64 (fun _ => rfl)
def boolR : Rp Bool := flatR 1 (fun x => [.bool x]) (fun _ => True) (fun _ => rfl)

/-- A slice that reads as a list. -/
def Sl {α : Type} (R : Rp α) (w : World) (lo hi : Nat) (A : Option Addr) (n c : Nat) (l : List α) : Prop :=
  l.length = n ∧ n ≤ c ∧ c ≤ maxLen ∧ (0 < n → ∃ b off, A = some ⟨b, off, none⟩ ∧ lo ≤ b ∧ b < hi ∧
    ∀ (i : Nat) (hi' : i < l.length), ∃ cs, R.rel w lo hi cs l[i] ∧ ∀ (j : Nat) (hj : j < cs.length), w.cell? ⟨b, off + i * R.size + j, none⟩ = some cs[j] ∧ w.frozen? ⟨b, off + i * R.size + j, none⟩ = false)

theorem Sl.keep {α : Type} {R : Rp α} {w w' : World} {lo hi lo' hi' : Nat} {A : Option Addr} {n c : Nat} {l : List α} (h : Sl R w lo hi A n c l) (h1 : lo' ≤ lo) (h2 : hi ≤ hi')
    (hk : ∀ k, lo ≤ k → k < hi → w'.heap[k]? = w.heap[k]?) : Sl R w' lo' hi' A n c l := by
  obtain ⟨e1, e2, e3, h⟩ := h
  refine ⟨e1, e2, e3, fun hn => ?_⟩
  obtain ⟨b, off, rfl, hb1, hb2, h⟩ := h hn
  refine ⟨b, off, rfl, by omega, by omega, fun i hi' => ?_⟩
  obtain ⟨cs, hr, hc⟩ := h i hi'
  refine ⟨cs, R.keep h1 h2 hk hr, fun j hj => ?_⟩
  rw [World.cell?_of_block (w := w) (hk b hb1 hb2), World.frozen?_of_block (w := w) (hk b hb1 hb2)]
  exact hc j hj

/-- A slice that owns its list: the outer array is a block of its own (from its head on), the elements own what they reach; no block twice. -/
def OwnSl {α : Type} (R : Rp α) (w : World) (e : TypeId) (F : List Nat) (v : Value) (l : List α) : Prop :=
  ∃ csl Fs, w.ownsRow 0 e R.size v l.length csl.flatten ∧ All3 (R.own w) Fs csl l ∧ F = v.ownBlock.toList ++ Fs.flatten ∧ F.Nodup

theorem flatten_get {β : Type} {s : Nat} : ∀ {csl : List (List β)}, (∀ c ∈ csl, c.length = s) → ∀ (i : Nat) (hi : i < csl.length) (j : Nat), j < s → csl.flatten[i * s + j]? = csl[i][j]?
  | [], _, _, hi, _, _ => absurd hi (by simp)
  | c :: csl, h, 0, _, j, hj => by
    have hc := h c (List.mem_cons_self ..)
    simp [List.getElem?_append, hc, hj]
  | c :: csl, h, i + 1, hi, j, hj => by
    have hc := h c (List.mem_cons_self ..)
    have := flatten_get (csl := csl) (fun x hx => h x (List.mem_cons_of_mem _ hx)) i (by simpa using hi) j hj
    rw [List.flatten_cons, List.getElem?_append_right (by rw [hc, Nat.add_mul]; omega), hc, show (i + 1) * s + j - s = i * s + j by rw [Nat.add_mul]; omega, this]
    simp
theorem all3_len {α : Type} {R : Rp α} {w : World} : ∀ {Fs : List (List Nat)} {csl : List (List Value)} {l : List α}, All3 (R.own w) Fs csl l → ∀ c ∈ csl, c.length = R.size
  | _ :: Fs, c :: csl, _ :: l, h => fun x hx => by
    rcases List.mem_cons.1 hx with rfl | hx
    · exact R.ownLen h.1
    · exact all3_len (Fs := Fs) (csl := csl) (l := l) h.2 x hx
  | [], [], [], _ => fun _ hx => absurd hx (by simp)
  | [], [], _ :: _, h => h.elim
  | [], _ :: _, [], h => h.elim
  | [], _ :: _, _ :: _, h => h.elim
  | _ :: _, [], [], h => h.elim
  | _ :: _, [], _ :: _, h => h.elim
  | _ :: _, _ :: _, [], h => h.elim

section
variable {α : Type} {R : Rp α} {w w' : World} {e : TypeId} {F : List Nat} {v : Value} {l : List α}
theorem ownsRow_keep0 {base size n : Nat} {xs : List Value} (h : w.ownsRow base e size v n xs) (hk : ∀ k, v.ownBlock = some k → w'.heap[k]? = w.heap[k]?) : w'.ownsRow base e size v n xs := by
  obtain ⟨h1, h2⟩ := h
  refine ⟨h1, ?_⟩
  rcases h2 with h2 | ⟨g, cap, cur, hv, hg, hh, r⟩
  · exact Or.inl h2
  · exact Or.inr ⟨g, cap, cur, hv, hg, by rw [hk g (by rw [hv]; rfl)]; exact hh, r⟩
theorem OwnSl.keep (h : OwnSl R w e F v l) (hk : ∀ k, k ∈ F → w'.heap[k]? = w.heap[k]?) : OwnSl R w' e F v l := by
  obtain ⟨csl, Fs, h1, h2, rfl, hn⟩ := h
  refine ⟨csl, Fs, ownsRow_keep0 h1 fun k hv => hk k (by rw [hv]; simp), ?_, rfl, hn⟩
  exact h2.mono fun a b c ha h => R.ownKeep (fun k hka => hk k (List.mem_append_right _ (List.mem_flatten.2 ⟨a, ha, hka⟩))) h
theorem OwnSl.lt (h : OwnSl R w e F v l) : ∀ k, k ∈ F → k < w.heap.size := by
  obtain ⟨csl, Fs, h1, h2, rfl, hn⟩ := h
  intro k hk
  rcases List.mem_append.1 hk with hk | hk
  · exact (h1.lt k (by simpa using hk)).2
  · obtain ⟨a, ha, hka⟩ := List.mem_flatten.1 hk
    have h3 := h2.mono (Q := fun a _ _ => ∀ k, k ∈ a → k < w.heap.size) fun a b c _ h => R.ownLt h
    obtain ⟨i, hi, rfl⟩ := List.getElem_of_mem ha
    have hl := h2.len
    exact h3.get i hi (by omega) (by omega) k hka
theorem OwnSl.form (h : OwnSl R w e F v l) : ∃ A n c, v = .slice A n c ∧ n = l.length := by
  obtain ⟨csl, Fs, h1, _⟩ := h
  rcases h1.2 with ⟨rfl, h⟩ | ⟨g, cap, cur, rfl, _⟩
  · exact ⟨_, _, _, rfl, h.symm⟩
  · exact ⟨_, _, _, rfl, rfl⟩
theorem OwnSl.toSl {A : Option Addr} {n c lo hi : Nat} (h : OwnSl R w e F (.slice A n c) l) (hF : ∀ k, k ∈ F → lo ≤ k ∧ k < hi) : Sl R w lo hi A n c l := by
  obtain ⟨csl, Fs, h1, h2, rfl, hn⟩ := h
  have hl := h2.len
  have hcs := all3_len h2
  rcases h1.2 with ⟨h, h0⟩ | ⟨g, cap, cur, h, _, hg, hnc, hcm, hsz, htk⟩
  · injection h with e1 e2 e3
    subst e1 e2 e3
    exact ⟨by omega, Nat.le_refl _, Nat.zero_le _, fun h => absurd h (by omega)⟩
  · injection h with e1 e2 e3
    subst e1 e2 e3
    refine ⟨rfl, hnc, hcm, fun hp => ⟨g, 0, rfl, (hF g (by simp [Value.ownBlock])).1, (hF g (by simp [Value.ownBlock])).2, fun i hi' => ⟨csl[i]'(by omega), ?_, fun j hj => ?_⟩⟩⟩
    · refine R.ownRel (h2.get i (by omega) (by omega) hi') fun k hk => hF k ?_
      exact List.mem_append_right _ (List.mem_flatten.2 ⟨_, List.getElem_mem (by omega), hk⟩)
    · have hjs : j < R.size := by rw [← hcs _ (List.getElem_mem (by omega : i < csl.length))]; exact hj
      have hle : i * R.size + j < l.length * R.size := by
        have : (i + 1) * R.size ≤ l.length * R.size := Nat.mul_le_mul_right _ hi'
        rw [Nat.add_mul] at this; omega
      refine ⟨?_, frozen_of_row w g _ cur e hg⟩
      rw [cell_of_row w g _ cur e (0, 0) hg, Nat.zero_add]
      have := flatten_get hcs i (by omega) j hjs
      rw [← htk, List.getElem?_take, if_pos hle] at this
      simp at this
      rw [this]
      simp [hj]
end

def sliceR {α : Type} (e : TypeId) (R : Rp α) : Rp (List α) where
  size := 1
  rel := fun w lo hi cs l => ∃ A n c, cs = [.slice A n c] ∧ Sl R w lo hi A n c l
  own := fun w F cs l => ∃ A n c, cs = [.slice A n c] ∧ OwnSl R w e F (.slice A n c) l
  len := fun ⟨_, _, _, h, _⟩ => by rw [h]; rfl
  ownLen := fun ⟨_, _, _, h, _⟩ => by rw [h]; rfl
  keep := fun h1 h2 hk ⟨A, n, c, e, h⟩ => ⟨A, n, c, e, h.keep h1 h2 hk⟩
  ownKeep := fun hk ⟨A, n, c, e, h⟩ => ⟨A, n, c, e, h.keep hk⟩
  ownRel := fun ⟨A, n, c, e, h⟩ hF => ⟨A, n, c, e, h.toSl hF⟩
  ownLt := fun ⟨_, _, _, _, h⟩ => h.lt

section
variable {α : Type} {R : Rp α} {w w' : World} {lo hi : Nat} {A : Option Addr} {n c : Nat} {l : List α}
theorem Sl.below {B : Nat} (h : Sl R w lo hi A n c l) (hb : Below B w w') (hB : hi ≤ B) : Sl R w' lo hi A n c l :=
  h.keep (Nat.le_refl _) (Nat.le_refl _) fun k _ hk => hb.block k (by omega)
theorem Sl.more {lo' hi' : Nat} (h : Sl R w lo hi A n c l) (h1 : lo' ≤ lo) (h2 : hi ≤ hi') : Sl R w lo' hi' A n c l := h.keep h1 h2 fun _ _ _ => rfl
theorem Sl.at_ {k : Nat} (h : Sl R w lo hi A n c l) (hk : k < n) : ∃ b off cs, A = some ⟨b, off, none⟩ ∧ lo ≤ b ∧ b < hi ∧ R.rel w lo hi cs (l[k]'(by have := h.1; omega)) ∧
    ∀ (j : Nat) (hj : j < cs.length), w.cell? ⟨b, off + k * R.size + j, none⟩ = some cs[j] ∧ w.frozen? ⟨b, off + k * R.size + j, none⟩ = false := by
  obtain ⟨e1, _, _, h⟩ := h
  obtain ⟨b, off, rfl, hb1, hb2, h⟩ := h (by omega)
  obtain ⟨cs, hr, hc⟩ := h k (by omega)
  exact ⟨b, off, cs, rfl, hb1, hb2, hr, hc⟩
theorem Sl.lenEq (h : Sl R w lo hi A n c l) : l.length = n := h.1
theorem Sl.lenLe (h : Sl R w lo hi A n c l) : n ≤ 9223372036854775807 := by have := h.2.1; have h2 := h.2.2.1; unfold maxLen at h2; omega
theorem Sl.nil_ (R : Rp α) (w : World) (lo hi : Nat) : Sl R w lo hi none 0 0 [] := ⟨rfl, Nat.le_refl _, Nat.zero_le _, fun h => absurd h (by omega)⟩
end
theorem Sl.int_at {w : World} {lo hi : Nat} {A : Option Addr} {n c k : Nat} {l : List Int} (h : Sl intR w lo hi A n c l) (hk : k < n) :
    ∃ b off, A = some ⟨b, off, none⟩ ∧ lo ≤ b ∧ b < hi ∧ w.cell? ⟨b, off + k, none⟩ = some (.int .i64 (l[k]'(by have := h.1; omega))) ∧ w.frozen? ⟨b, off + k, none⟩ = false ∧ I64 (l[k]'(by have := h.1; omega)) := by
  obtain ⟨b, off, cs, rfl, h1, h2, ⟨rfl, hi⟩, hc⟩ := h.at_ hk
  have := hc 0 (by simp)
  simp [intR, flatR] at this
  exact ⟨b, off, rfl, h1, h2, this.1, this.2, hi⟩

theorem wrap_small {n : Int} (h1 : 0 ≤ n) (h2 : n < 9223372036854775808) : wrap64 n = n := by unfold wrap64; omega
theorem byte_bd (c : UInt8) : (0 : Int) ≤ (c.toNat : Int) ∧ (c.toNat : Int) < 256 := by have := c.toNat_lt; omega
theorem ret_int {k : IntKind} {a b : Int} (h : a = b) : Ending.returned (.int k a) = .returned (.int k b) := by rw [h]
theorem ret_bool {a b : Bool} (h : a = b) : Ending.returned (.bool a) = .returned (.bool b) := by rw [h]
theorem below_drewN {B : Nat} {a w : World} (h : Below B a w) (n : Nat) : Below B a (w.drewN n) := ⟨h.os, h.tape, h.output, h.size, h.block⟩
theorem take_eq_snoc {α : Type} {l l' : List α} {k : Nat} (h : l.take k = l'.take k) (h1 : k < l.length) (h2 : k < l'.length) (he : l[k] = l'[k]) : l.take (k + 1) = l'.take (k + 1) := by
  rw [List.take_succ_eq_append_getElem h1, List.take_succ_eq_append_getElem h2, h, he]
theorem ne_of_at {α : Type} {l l' : List α} {k : Nat} (h1 : k < l.length) (h2 : k < l'.length) (he : ¬ l[k] = l'[k]) : ¬ l = l' := by
  rintro rfl; exact he rfl
theorem eq_of_takes {α : Type} {l l' : List α} {k : Nat} (h : l.take k = l'.take k) (h1 : l.length ≤ k) (h2 : l'.length ≤ k) : l = l' := by
  rwa [List.take_of_length_le h1, List.take_of_length_le h2] at h
end Go.Proofs.Ytikffchdembbjaa
